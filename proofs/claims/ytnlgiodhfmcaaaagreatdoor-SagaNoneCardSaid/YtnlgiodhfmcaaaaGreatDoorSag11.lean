/-
  The law of supervisors that are not there, and at the ends.
-/
import Derived.Test.YtnlgiodhfmcaaaaGreatDoorSag7
import Derived.Test.YtnlgiodhfmcaaaaGreatDoorSag9
import Derived.Test.YtnlgiodhfmcaaaaGreatDoorSag10
namespace Go.Proofs.YtnlgiodhfmcaaaaGreatDoor
open Go.RowKit

theorem below_le {B C : Nat} {a b : World} (h : Below B a b) (hb : C ≤ B) : Below C a b := ⟨h.os, h.tape, h.output, h.size, fun k hk => h.block k (by omega)⟩
theorem new_book (w : World) : Calls Tryz.prog 4 #[] w fun e w' => e = .returned (.pointer (some ⟨w.heap.size, 0, none⟩)) ∧ Blk w' w.heap.size 47 #[.slice none 0 0] ∧ Chg [] w w' := by
  go_enter Tryz.func4, Tryz.ntmps4
  go_wp2_with fail
  go_ret
  exact ⟨rfl, Blk.new _ _ _, (Chg.refl _ _).alloc _⟩

set_option maxRecDepth 100000 in
set_option maxHeartbeats 4000000 in
theorem walk_snone (w : World) : Calls Tryz.prog 3 #[] w fun e w' => e = .returned (.bool true) ∧ Below w.heap.size w w' := by
  have mk5 : ∀ w : World, (Instr.makeSlice 31 (.int .i64 65) (.int .i64 65)).run Tryz.prog w = .ok (.slice (some ⟨w.heap.size, 0, none⟩) 65 65) (w.alloc (.cells (noActs 65) 53)) := make_acts 65 (by omega)
  have mk4 : ∀ w : World, (Instr.makeSlice 31 (.int .i64 64) (.int .i64 64)).run Tryz.prog w = .ok (.slice (some ⟨w.heap.size, 0, none⟩) 64 64) (w.alloc (.cells (noActs 64) 53)) := make_acts 64 (by omega)
  go_enter Tryz.func3, Tryz.ntmps3
  go_wp2_with fail
  refine (new_book _).mono ?_
  rintro e w1 ⟨rfl, hbk, hd⟩
  have HK1 := Lib.hid hbk; have HC1 := Lib.hid hd
  clear hbk hd
  go_wp2_with fail
  refine (run_nil _ _).mono ?_
  rintro e w2 ⟨rfl, hd⟩
  have HC2 := Lib.hid (((HC1.out.alloc (.cells (noActs 65) 53)).trans hd).alloc (.cells (outC 0 0) 27)); have HK2 := Lib.hid (((HK1.out.alloc (.cells (noActs 65) 53)).chg hd (by simp)).alloc (.cells (outC 0 0) 27))
  clear hd
  go_wp2_with (with_reducible refine store_new (ty := 27) (outC 0 0) ?_ ?_ ?_ ?_ ?_ ?_)
  · go_simp
  · go_simp
  · kernel_rfl
  · kernel_rfl
  · kernel_rfl
  go_wp2_with fail
  refine (run_many _ _ _ _).mono ?_
  rintro e w3 ⟨rfl, hd⟩
  have HC3 := Lib.hid (((HC2.out.alloc (.cells (noActs 65) 53)).trans hd).alloc (.cells (outC 0 0) 27)); have HK3 := Lib.hid (((HK2.out.alloc (.cells (noActs 65) 53)).chg hd (by simp)).alloc (.cells (outC 0 0) 27))
  clear hd
  go_wp2_with (with_reducible refine store_new (ty := 27) (outC 0 0) ?_ ?_ ?_ ?_ ?_ ?_)
  · go_simp
  · go_simp
  · kernel_rfl
  · kernel_rfl
  · kernel_rfl
  go_wp2_with fail
  have hna : Blk ((w3.alloc (.cells (outC 0 0) 27)).alloc (.cells (noActs 64) 53)) (w3.heap.size + 1) 53 (noActs 64) := Blk.new' _ _ _ _ (by simp)
  refine (run_fine _ (w3.heap.size + 1) 64 _ hna.lt (fun i hi => (hna.cell i).trans (act_cell i hi))).mono ?_
  rintro e w4 ⟨rfl, hd⟩
  have HC4 := Lib.hid (((HC3.out.alloc (.cells (noActs 64) 53)).trans hd).alloc (.cells (outC (-1) 0) 27)); have HK4 := Lib.hid (((HK3.out.alloc (.cells (noActs 64) 53)).chg hd (by simp)).alloc (.cells (outC (-1) 0) 27))
  have HO4 := Lib.hid (Blk.new w4 27 (outC (-1) 0))
  clear hd hna
  go_wp2_with (with_reducible refine store_new (ty := 27) (outC (-1) 0) ?_ ?_ ?_ ?_ ?_ ?_)
  · go_simp
  · go_simp
  · kernel_rfl
  · kernel_rfl
  · kernel_rfl
  go_wp2_with fail
  refine (sx_exit _ _).mono ?_
  rintro e w5 ⟨rfl, hd⟩
  have HC5 := Lib.hid (HC4.out.trans hd); have HK5 := Lib.hid (HK4.out.chg hd (by simp)); have HO5 := Lib.hid (HO4.out.chg hd (by simp))
  clear hd
  go_wp2_with fail
  refine (sx_stop _).mono ?_
  rintro e w6 ⟨rfl, hd⟩
  have HC6 := Lib.hid (HC5.out.trans hd); have HK6 := Lib.hid (HK5.out.chg hd (by simp))
  have ho6 := HO5.out.chg hd (by simp)
  obtain ⟨⟨o0, o1, o2, o3⟩, -⟩ := ho6.four
  clear hd ho6
  go_wp2_with fail
  refine (sx_up _).mono ?_
  rintro e w7 ⟨rfl, hd⟩
  have HC7 := Lib.hid (HC6.out.trans hd); have HK7 := Lib.hid (HK6.out.chg hd (by simp))
  clear hd o0 o1 o2 o3
  go_wp2_with fail
  refine (sx_life _).mono ?_
  rintro e w8 ⟨rfl, hd⟩
  have HC8 := Lib.hid (HC7.out.trans hd); have HK8 := Lib.hid (HK7.out.chg hd (by simp))
  clear hd
  go_wp2_with fail
  refine (sx_ended _).mono ?_
  rintro e w9 ⟨rfl, hd⟩
  have HC9 := Lib.hid (HC8.out.trans hd); have HK9 := Lib.hid (HK8.out.chg hd (by simp))
  clear hd
  go_wp2_with fail
  refine (sx_restarts _).mono ?_
  rintro e w10 ⟨rfl, hd⟩
  have HC10 := Lib.hid (HC9.out.trans hd); have HK10 := Lib.hid (HK9.out.chg hd (by simp))
  clear hd
  go_wp2_with fail
  refine (new_none _).mono ?_
  rintro e w11 ⟨rfl, hd⟩
  have HC11 := Lib.hid ((HC10.out.trans hd).alloc (.cells #[.int .u8 1] 5)); have HK11 := Lib.hid ((HK10.out.chg hd (by simp)).alloc (.cells #[.int .u8 1] 5))
  clear hd
  go_wp2_with fail
  have hna : Blk (w11.alloc (.cells #[.int .u8 1] 5)) w11.heap.size 5 #[.int .u8 1] := Blk.new _ _ _
  have HK11b := HK11
  refine (new_ok w11.heap.size 1 _ hna.lt (hna.cell 0)).mono ?_
  clear hna
  rintro e w12 ⟨g, cb, cc, A, k, rfl, hs, hb⟩
  have hBN := HK11.out.lt
  have HS12 := Lib.hid hs; have HK12 := Lib.hid (HK11.out.below hb hBN); have HB12 := Lib.hid hb
  have hszB : w.heap.size ≤ (w11.alloc (.cells #[.int .u8 1] 5)).heap.size := HC11.out.size
  clear hs hb
  generalize hBdef : (w11.alloc (.cells #[.int .u8 1] 5)).heap.size = B at *
  go_wp2_with fail
  refine (exit_arg _ HS12.out).mono ?_
  rintro e w13 ⟨rfl, hww⟩
  have hww := hww.symm
  subst hww
  go_wp2_with fail
  refine (exit_nil HS12.out).mono ?_
  rintro e w14 ⟨rfl, hd⟩
  have HS14 := Lib.hid (HS12.out.fresh hd); have HK14 := Lib.hid (HK12.out.chg hd (by simp)); have HD14 := Lib.hid hd
  clear hd
  go_wp2_with fail
  refine (exit_bad _ HS14.out (HK14.out.cell 0)).mono ?_
  rintro e w15 ⟨rfl, hd⟩
  have HS15 := Lib.hid (HS14.out.fresh hd); have HD15 := Lib.hid (HD14.out.trans hd)
  clear hd
  go_wp2_with fail
  refine (exit_ok _ (by omega) (by omega) HS15.out).mono ?_
  rintro e w16 ⟨⟨A16, c16, rfl⟩, ⟨A17, c17, hs⟩, hb⟩
  have HS16 := Lib.hid hs; have HB16 := Lib.hid hb
  clear hs hb
  go_wp2_with fail
  refine (restarts_all HS16.out).mono ?_
  rintro e w17 ⟨rfl, hww⟩
  have hww := hww.symm
  subst hww
  go_wp2_with fail
  refine (stop_sup (by omega) HS16.out).mono ?_
  rintro e w18 ⟨⟨A18, c18, rfl⟩, hs, hb⟩
  have HS18 := Lib.hid hs; have HB18 := Lib.hid hb
  clear hs hb
  go_wp2_with fail
  refine (stop_twice HS18.out).mono ?_
  rintro e w19 ⟨rfl, hww⟩
  have hww := hww.symm
  subst hww
  go_wp2_with fail
  refine (ended_yes HS18.out).mono ?_
  rintro e w20 ⟨rfl, hww⟩
  have hww := hww.symm
  subst hww
  go_wp2_with fail
  go_ret
  exact ⟨rfl, ((((HC11.out.below (Nat.le_refl _) (by simp)).trans (below_le HB12.out hszB)).trans (HD15.out.below (Nat.le_trans HC11.out.size HB12.out.size) (by simp))).trans (below_le HB16.out hszB)).trans (below_le HB18.out hszB)⟩
end Go.Proofs.YtnlgiodhfmcaaaaGreatDoor
