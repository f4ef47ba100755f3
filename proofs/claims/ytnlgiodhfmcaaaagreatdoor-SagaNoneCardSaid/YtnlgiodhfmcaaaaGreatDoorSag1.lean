/-
  Acts that are none; supervisors that are not there.
-/
import Derived.Test.YtnlgiodhfmcaaaaGreatDoorNone1
import Derived.Test.YtnlgiodhfmcaaaaGreatDoorRowK
namespace Go.Proofs.YtnlgiodhfmcaaaaGreatDoor
open Go.RowKit

def outC (f e : Int) : Array Value := #[.int .i64 f, .int .i64 e, .slice none 0 0, .slice none 0 0]

set_option maxRecDepth 100000 in
theorem fine_nil (p : Option Addr) (w : World) : Calls Tryz.prog 13 #[.pointer p, .nilFunc] w fun e w' => e = .returned (.bool true) ∧ Chg [] w w' := by
  have hx : ∀ w, (binOp .eql 51 .nilFunc .nilFunc).run Tryz.prog w = .ok (.bool true) w := fun _ => by kernel_rfl
  go_enter Tryz.func13, Tryz.ntmps13
  go_wp2_with fail
  go_ret
  exact ⟨rfl, (Chg.refl _ _).alloc _⟩
set_option maxRecDepth 100000 in
theorem err_none (g : Nat) (w : World) (h : w.cell? ⟨g, 1, none⟩ = some (.slice none 0 0)) : Calls Tryz.prog 14 #[.pointer (some ⟨g, 0, none⟩)] w fun e w' => e = .returned (.int .i64 0) ∧ w' = w := by
  go_enter Tryz.func14, Tryz.ntmps14
  go_wp2_with fail
  go_ret
  exact ⟨rfl, rfl⟩
set_option maxRecDepth 100000 in
theorem run_nil (v : Value) (w : World) : Calls Tryz.prog 5 #[.pointer none, v] w fun e w' => e = .returned (.tuple #[.agg (outC 0 0), .int .i64 2]) ∧ Chg [] w w' := by
  go_enter Tryz.func5, Tryz.ntmps5
  go_wp2_with (with_reducible refine store_new (ty := 27) (outC 0 0) ?_ ?_ ?_ ?_ ?_ ?_)
  · go_simp
  · go_simp; try rfl
  · kernel_rfl
  · kernel_rfl
  · kernel_rfl
  go_wp2_with fail
  refine bodyPost_ret (v := .tuple #[.agg (outC 0 0), .int .i64 2]) (res_ct Tryz.results5 _ _ w.heap.size 27 (outC 0 0) _ _ rfl rfl (Blk.new _ _ _) Tryz.underlying27 rfl (by kernel_rfl)) rfl ?_
  exact ⟨rfl, (Chg.refl _ _).alloc _⟩
set_option maxRecDepth 100000 in
theorem run_many (x : Nat) (A : Option Addr) (c : Nat) (w : World) : Calls Tryz.prog 5 #[.pointer (some ⟨x, 0, none⟩), .slice A 65 c] w fun e w' => e = .returned (.tuple #[.agg (outC 0 0), .int .i64 1]) ∧ Chg [] w w' := by
  go_enter Tryz.func5, Tryz.ntmps5
  go_wp2_with (with_reducible refine store_new (ty := 27) (outC 0 0) ?_ ?_ ?_ ?_ ?_ ?_)
  · go_simp
  · go_simp; try rfl
  · kernel_rfl
  · kernel_rfl
  · kernel_rfl
  go_wp2_with fail
  refine bodyPost_ret (v := .tuple #[.agg (outC 0 0), .int .i64 1]) (res_ct Tryz.results5 _ _ w.heap.size 27 (outC 0 0) _ _ rfl rfl (Blk.new _ _ _) Tryz.underlying27 rfl (by kernel_rfl)) rfl ?_
  exact ⟨rfl, (Chg.refl _ _).alloc _⟩

set_option maxRecDepth 100000 in
theorem sx_exit (p : Value) (w : World) : Calls Tryz.prog 6 #[.pointer none, p, .int .i64 0, .int .i64 0, .int .i64 0] w fun e w' => e = .returned (.tuple #[.slice none 0 0, .int .i64 2]) ∧ Chg [] w w' := by
  go_enter Tryz.func6, Tryz.ntmps6
  go_wp2_with fail
  go_ret2
  exact ⟨rfl, Chg.refl _ _⟩
set_option maxRecDepth 100000 in
theorem sx_stop (w : World) : Calls Tryz.prog 7 #[.pointer none] w fun e w' => e = .returned (.tuple #[.slice none 0 0, .int .i64 2]) ∧ Chg [] w w' := by
  go_enter Tryz.func7, Tryz.ntmps7
  go_wp2_with fail
  go_ret2
  exact ⟨rfl, Chg.refl _ _⟩
set_option maxRecDepth 100000 in
theorem sx_there (i : Int) (w : World) : Calls Tryz.prog 15 #[.pointer none, .int .i64 i] w fun e w' => e = .returned (.bool false) ∧ w' = w := by
  go_enter Tryz.func15, Tryz.ntmps15
  go_wp2_with fail
  go_ret
  exact ⟨rfl, rfl⟩
set_option maxRecDepth 100000 in
theorem sx_up (w : World) : Calls Tryz.prog 8 #[.pointer none, .int .i64 0] w fun e w' => e = .returned (.bool false) ∧ Chg [] w w' := by
  go_enter Tryz.func8, Tryz.ntmps8
  go_wp2_with fail
  refine (sx_there _ _).mono ?_
  rintro e w' ⟨rfl, rfl⟩
  go_wp2_with fail
  go_ret
  exact ⟨rfl, Chg.refl _ _⟩
set_option maxRecDepth 100000 in
theorem sx_life (w : World) : Calls Tryz.prog 9 #[.pointer none, .int .i64 0] w fun e w' => e = .returned (.int .i64 0) ∧ Chg [] w w' := by
  go_enter Tryz.func9, Tryz.ntmps9
  go_wp2_with fail
  refine (sx_there _ _).mono ?_
  rintro e w' ⟨rfl, rfl⟩
  go_wp2_with fail
  go_ret
  exact ⟨rfl, Chg.refl _ _⟩
set_option maxRecDepth 100000 in
theorem sx_ended (w : World) : Calls Tryz.prog 10 #[.pointer none] w fun e w' => e = .returned (.bool false) ∧ Chg [] w w' := by
  go_enter Tryz.func10, Tryz.ntmps10
  go_wp2_with fail
  go_ret
  exact ⟨rfl, Chg.refl _ _⟩
set_option maxRecDepth 100000 in
theorem sx_restarts (w : World) : Calls Tryz.prog 11 #[.pointer none, .int .i64 0] w fun e w' => e = .returned (.int .i64 0) ∧ Chg [] w w' := by
  go_enter Tryz.func11, Tryz.ntmps11
  go_wp2_with fail
  go_ret
  exact ⟨rfl, Chg.refl _ _⟩

set_option maxRecDepth 100000 in
set_option maxHeartbeats 1000000 in
/-- 64 acts that do nothing. -/
theorem run_fine (x a c : Nat) (w : World) (ha : a < w.heap.size) (hc : ∀ i, i < 128 → w.cell? ⟨a, i, none⟩ = some .nilFunc) : Calls Tryz.prog 5 #[.pointer (some ⟨x, 0, none⟩), .slice (some ⟨a, 0, none⟩) 64 c] w fun e w' => e = .returned (.tuple #[.agg (outC (-1) 0), .int .i64 0]) ∧ Chg [] w w' := by
  have HA := Lib.hid hc
  clear hc
  go_enter Tryz.func5, Tryz.ntmps5
  go_wp2_with (with_reducible refine store_new (ty := 27) (outC (-1) 0) ?_ ?_ ?_ ?_ ?_ ?_)
  · go_simp
  · go_simp; try rfl
  · kernel_rfl
  · kernel_rfl
  · kernel_rfl
  go_wp2_with fail
  refine forget (P := fun W => Code.wp _ _ _ _ W) _ (fun W => Blk W w.heap.size 27 (outC 0 0) ∧ Blk W (w.heap.size + 1) 50 #[.pointer (some ⟨x, 0, none⟩), .slice none 0 0] ∧ Blk W (w.heap.size + 1 + 1) 27 (outC (-1) 0) ∧ Chg [] w W) ?_ ?_
  · exact ⟨((Blk.new _ _ _).alloc _).alloc _, (Blk.new' _ _ _ _ (by simp)).alloc _, Blk.new' _ _ _ _ (by simp), (((Chg.refl [] w).alloc _).alloc _).alloc _⟩
  rintro w3 ⟨h1, h2, h3, hc⟩
  have H1 := Lib.hid h1; have H2 := Lib.hid h2; have H3 := Lib.hid h3; have HC := Lib.hid hc
  clear h1 h2 h3 hc
  have hsf := fun (w : World) (a : Addr) m => (run_store Tryz.prog w a (.nilFunc) m rfl : (store a (.nilFunc) m).run Tryz.prog w = stored Tryz.prog w a (.nilFunc) m)
  go_loopg [24] 64 (fun gk i wr => ∃ k : Nat, k + gk = 64 ∧ i = .int .i64 (k : Int) ∧ Chg [] w3 wr)
  case atStart => exact ⟨0, rfl, rfl, Chg.refl _ _⟩
  case round =>
    obtain ⟨k, hk, rfl, hC⟩ := hrel
    have HK := Lib.hid hk; have HW := Lib.hid hC
    clear hk
    by_cases hlt : k < 64
    · have hkI : (k : Int) < 64 := by omega
      have q0 : wr.cell? ⟨a, k * 2, none⟩ = some .nilFunc := ((HC.out.trans hC).cell (p := ⟨a, k * 2, none⟩) ha (by simp)).trans (HA.out _ (by omega))
      have q1 : wr.cell? ⟨a, k * 2 + 1, none⟩ = some .nilFunc := ((HC.out.trans hC).cell (p := ⟨a, k * 2 + 1, none⟩) ha (by simp)).trans (HA.out _ (by omega))
      have hal : a < wr.heap.size := Nat.lt_of_lt_of_le ha (HC.out.trans hC).size
      clear hC
      go_wp2_with fail
      refine (fine_nil _ _).mono ?_
      rintro e w5 ⟨rfl, hd⟩
      have HD := Lib.hid ((HW.out.alloc (.cells #[.nilFunc, .nilFunc] 53)).trans hd)
      clear hd
      go_wp2_with fail
      go_roundg (gk - 1)
      case rel => exact ⟨k + 1, by have := HK.out; omega, by go_num, HD.out⟩
      case measure => have := HK.out; omega
    · have hkI : ¬ (k : Int) < 64 := by omega
      have hb1 := H1.out.chg hC (by simp); have hb2 := H2.out.chg hC (by simp); have hb3 := H3.out.chg hC (by simp)
      obtain ⟨⟨m0, m1, m2, m3⟩, ⟨f0, f1, f2, f3⟩⟩ := hb3.four
      have c2 : wr.cell? ⟨w.heap.size + 1, 1, none⟩ = some (.slice none 0 0) := hb2.cell 1
      have hl := hb3.lt
      have HB1 := Lib.hid hb1; have HB2 := Lib.hid hb2; have HB3 := Lib.hid hb3
      clear hC hb1 hb2 hb3 hsf
      go_wp2_with fail
      go_loopg [10] 0 (fun _ i wq => i = .int .i64 (-2) ∧ wq = wr)
      case atStart => exact ⟨by go_num, rfl⟩
      case round =>
        obtain ⟨rfl, rfl⟩ := hrel
        go_wp2_with fail
        refine (err_none _ _ c2).mono ?_
        rintro e w7 ⟨rfl, rfl⟩
        have HS := Lib.hid (Blk.set_ HB3.out 1 (.int .i64 0))
        have HR := Lib.hid (HB1.out.far (p := ⟨w.heap.size + 1 + 1, 1, none⟩) (by simp; omega) (.int .i64 0))
        have HCW := Lib.hid ((HC.out.trans HW.out).setCell (p := ⟨w.heap.size + 1 + 1, 1, none⟩) (.inr (by simp; omega)) (.int .i64 0))
        go_wp2_with (with_reducible refine store_blk (ty := 27) w.heap.size (outC (-1) 0) ?_ ?_ HR.out ?_ ?_ ?_ ?_)
        · go_simp
        · go_simp; try rfl
        · kernel_rfl
        · kernel_rfl
        · kernel_rfl
        go_wp2_with fail
        refine bodyPost_ret (v := .tuple #[.agg (outC (-1) 0), .int .i64 0]) (res_ct Tryz.results5 _ _ w.heap.size 27 (outC (-1) 0) _ _ rfl rfl (blk_setRow HR.out _) Tryz.underlying27 rfl (by kernel_rfl)) rfl ?_
        exact ⟨rfl, chg_setRow HCW.out (.inr (Nat.le_refl _)) _⟩
end Go.Proofs.YtnlgiodhfmcaaaaGreatDoor
