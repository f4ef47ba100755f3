/-
  The law of matching where there is no book, and at the ends. (Printed by wip/tools/gen_mat3.py.)
-/
import Derived.Test.YtfdegodfgknfhaaGreatDoorMat2
namespace Go.Proofs.YtfdegodfgknfhaaGreatDoor
open Go.RowKit

set_option maxRecDepth 100000 in
set_option maxHeartbeats 4000000 in
theorem walk_mnone (w : World) : Calls Tryz.prog 3 #[] w fun e w' => e = .returned (.bool true) ∧ Below w.heap.size w w' := by
  go_enter Tryz.func3, Tryz.ntmps3
  go_wp2_with fail
  have HC0 : Hid (Chg [] w w) := Lib.hid (Chg.refl [] w)
  refine (is_nil _).mono ?_
  rintro e w1 ⟨rfl, hd⟩
  have HC1 := Lib.hid (HC0.out.trans hd)
  clear hd
  go_wp2_with (with_reducible refine store_new (ty := 33) (ansC 0) ?_ ?_ ?_ ?_ ?_ ?_)
  · go_simp
  · go_simp
  · kernel_rfl
  · kernel_rfl
  · kernel_rfl
  go_wp2_with fail
  refine (as_nil _).mono ?_
  rintro e w2 ⟨rfl, hd⟩
  have HC2 := Lib.hid ((HC1.out.alloc (.cells (ansC 0) 33)).trans hd)
  clear hd
  go_wp2_with (with_reducible refine store_new (ty := 33) (ansC 0) ?_ ?_ ?_ ?_ ?_ ?_)
  · go_simp
  · go_simp
  · kernel_rfl
  · kernel_rfl
  · kernel_rfl
  go_wp2_with fail
  refine (every_nil _).mono ?_
  rintro e w3 ⟨rfl, hd⟩
  have HC3 := Lib.hid ((HC2.out.alloc (.cells (ansC 0) 33)).trans hd)
  clear hd
  go_wp2_with fail
  refine (any_nil _ _).mono ?_
  rintro e w4 ⟨rfl, hd⟩
  have HC4 := Lib.hid ((HC3.out.alloc (.cells #[.int .i64 9] 3)).trans hd)
  clear hd
  go_wp2_with (with_reducible refine store_new (ty := 33) (ansC 0) ?_ ?_ ?_ ?_ ?_ ?_)
  · go_simp
  · go_simp
  · kernel_rfl
  · kernel_rfl
  · kernel_rfl
  go_wp2_with fail
  refine (chain_nil _).mono ?_
  rintro e w5 ⟨rfl, hd⟩
  have HC5 := Lib.hid ((HC4.out.alloc (.cells (ansC 0) 33)).trans hd)
  clear hd
  go_wp2_with (with_reducible refine store_new (ty := 33) (ansC 0) ?_ ?_ ?_ ?_ ?_ ?_)
  · go_simp
  · go_simp
  · kernel_rfl
  · kernel_rfl
  · kernel_rfl
  go_wp2_with fail
  refine (matrix_nil _ _).mono ?_
  rintro e w6 ⟨rfl, hd⟩
  have HC6 := Lib.hid (((HC5.out.alloc (.cells (ansC 0) 33)).alloc (.cells #[.int .i64 9] 3)).trans hd)
  clear hd
  go_wp2_with fail
  refine (new_book _).mono ?_
  rintro e w7 ⟨rfl, hbk, hd⟩
  have HC7 := Lib.hid (HC6.out.trans hd); have HK7 := Lib.hid hbk
  clear hd hbk
  go_wp2_with fail
  refine (as_900 _ _ (HK7.out.cell 0) HK7.out.lt).mono ?_
  rintro e w8 ⟨rfl, hd⟩
  have HC8 := Lib.hid (HC7.out.trans hd)
  have HK8 := Lib.hid ((HK7.out.chg hd (by simp)).alloc (.cells (ansC 0) 33))
  clear hd
  go_wp2_with (with_reducible refine store_new (ty := 33) (ansC 0) ?_ ?_ ?_ ?_ ?_ ?_)
  · go_simp
  · go_simp
  · kernel_rfl
  · kernel_rfl
  · kernel_rfl
  go_wp2_with fail
  refine (as_000 _ _).mono ?_
  rintro e w9 ⟨rfl, hd⟩
  have HC9 := Lib.hid ((HC8.out.alloc (.cells (ansC 0) 33)).trans hd)
  have HK9 := Lib.hid ((HK8.out.chg hd (by simp)).alloc (.cells (ansC 0) 33))
  clear hd
  go_wp2_with (with_reducible refine store_new (ty := 33) (ansC 0) ?_ ?_ ?_ ?_ ?_ ?_)
  · go_simp
  · go_simp
  · kernel_rfl
  · kernel_rfl
  · kernel_rfl
  go_wp2_with fail
  refine (as_0271 _ _).mono ?_
  rintro e w10 ⟨rfl, hd⟩
  have HC10 := Lib.hid ((HC9.out.alloc (.cells (ansC 0) 33)).trans hd)
  have HK10 := Lib.hid ((HK9.out.chg hd (by simp)).alloc (.cells (ansC 0) 33))
  clear hd
  go_wp2_with (with_reducible refine store_new (ty := 33) (ansC 0) ?_ ?_ ?_ ?_ ?_ ?_)
  · go_simp
  · go_simp
  · kernel_rfl
  · kernel_rfl
  · kernel_rfl
  go_wp2_with fail
  refine (as_0270 _ _).mono ?_
  rintro e w11 ⟨rfl, hd⟩
  have HC11 := Lib.hid ((HC10.out.alloc (.cells (ansC 0) 33)).trans hd)
  have HK11 := Lib.hid ((HK10.out.chg hd (by simp)).alloc (.cells (ansC 0) 33))
  clear hd
  go_wp2_with (with_reducible refine store_new (ty := 33) (ansC 0) ?_ ?_ ?_ ?_ ?_ ?_)
  · go_simp
  · go_simp
  · kernel_rfl
  · kernel_rfl
  · kernel_rfl
  go_wp2_with fail
  refine (as_0020 _ _).mono ?_
  rintro e w12 ⟨rfl, hd⟩
  have HC12 := Lib.hid ((HC11.out.alloc (.cells (ansC 0) 33)).trans hd)
  have HK12 := Lib.hid ((HK11.out.chg hd (by simp)).alloc (.cells (ansC 0) 33))
  clear hd
  go_wp2_with (with_reducible refine store_new (ty := 33) (ansC 0) ?_ ?_ ?_ ?_ ?_ ?_)
  · go_simp
  · go_simp
  · kernel_rfl
  · kernel_rfl
  · kernel_rfl
  go_wp2_with fail
  refine (is_00 _ _).mono ?_
  rintro e w13 ⟨rfl, hd⟩
  have HC13 := Lib.hid ((HC12.out.alloc (.cells (ansC 0) 33)).trans hd)
  have HK13 := Lib.hid ((HK12.out.chg hd (by simp)).alloc (.cells (ansC 1) 33))
  clear hd
  go_wp2_with (with_reducible refine store_new (ty := 33) (ansC 1) ?_ ?_ ?_ ?_ ?_ ?_)
  · go_simp
  · go_simp
  · kernel_rfl
  · kernel_rfl
  · kernel_rfl
  go_wp2_with fail
  have HY13 := Lib.hid (Blk.new w13 33 (ansC 1))
  refine (as_0019 _ _).mono ?_
  rintro e w14 ⟨rfl, hd⟩
  have HC14 := Lib.hid ((HC13.out.alloc (.cells (ansC 1) 33)).trans hd)
  have HK14 := Lib.hid ((HK13.out.chg hd (by simp)).alloc (.cells (ansC 2) 33))
  have HY14 := Lib.hid ((HY13.out.chg hd (by simp)).alloc (.cells (ansC 2) 33))
  clear hd
  go_wp2_with (with_reducible refine store_new (ty := 33) (ansC 2) ?_ ?_ ?_ ?_ ?_ ?_)
  · go_simp
  · go_simp
  · kernel_rfl
  · kernel_rfl
  · kernel_rfl
  go_wp2_with fail
  have HZ14 := Lib.hid (Blk.new w14 33 (ansC 2))
  refine (is_01 _ _ (HK14.out.cell 0) HK14.out.lt).mono ?_
  rintro e w15 ⟨rfl, hd⟩
  have HC15 := Lib.hid ((HC14.out.alloc (.cells (ansC 2) 33)).trans hd)
  have HK15 := Lib.hid ((HK14.out.chg hd (by simp)).alloc (.cells (ansC 0) 33))
  have HY15 := Lib.hid ((HY14.out.chg hd (by simp)).alloc (.cells (ansC 0) 33))
  have HZ15 := Lib.hid ((HZ14.out.chg hd (by simp)).alloc (.cells (ansC 0) 33))
  clear hd
  have y0 : (w15.alloc (.cells (ansC 0) 33)).cell? ⟨w13.heap.size, 0, none⟩ = some (.int .i8 1) := HY15.out.cell 0
  have y6 : (w15.alloc (.cells (ansC 0) 33)).cell? ⟨w13.heap.size, 18, none⟩ = some (.int .i64 0) := HY15.out.cell 18
  have z0 : (w15.alloc (.cells (ansC 0) 33)).cell? ⟨w14.heap.size, 0, none⟩ = some (.int .i8 2) := HZ15.out.cell 0
  have z6 : (w15.alloc (.cells (ansC 0) 33)).cell? ⟨w14.heap.size, 18, none⟩ = some (.int .i64 0) := HZ15.out.cell 18
  have hcl : Chg [] w (w15.alloc (.cells (ansC 0) 33)) := HC15.out.alloc _
  generalize hW : w15.alloc (.cells (ansC 0) 33) = W at *
  go_wp2_with (with_reducible refine store_new (ty := 33) (ansC 0) ?_ ?_ ?_ ?_ ?_ ?_)
  · go_simp
  · go_simp
  · kernel_rfl
  · kernel_rfl
  · kernel_rfl
  go_ret
  exact ⟨rfl, hcl.below (Nat.le_refl _) (by simp)⟩
end Go.Proofs.YtfdegodfgknfhaaGreatDoor
