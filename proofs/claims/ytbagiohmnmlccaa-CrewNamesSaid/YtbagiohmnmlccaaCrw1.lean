/-
  A latch, a scope, a lazy thing that are not there; no work; a scope by itself, given up.
-/
import Derived.Test.YtbagiohmnmlccaaProg
import Derived.Test.YtbagiohmnmlccaaBase
import Derived.Test.YtbagiohmnmlccaaReg1
import Derived.WalkLawsBesides
import Derived.WalkSpells
import Derived.LoopTactic
import Derived.Deep.LoopGhost
namespace Go.Proofs.Ytbagiohmnmlccaa
open Go.RowKit

def pan0 : Array Value := #[.int .i64 0, .string ⟨#[]⟩, .int .i64 0]
def out0 : Array Value := #[.int .i64 0, .int .i64 0, .string ⟨#[]⟩, .int .i64 0, .int .i64 0]

theorem c_get (w : World) : Calls Try.prog 4 #[.pointer none] w fun e w' => e = .returned (.tuple #[.nilIface, .bool false]) ∧ Chg [] w w' := by
  go_enter Try.func4, Try.ntmps4
  go_wp2_with fail
  go_ret2
  exact ⟨rfl, Chg.refl _ _⟩
theorem c_set (w : World) : Calls Try.prog 12 #[.pointer none, .nilIface] w fun e w' => e = .returned (.bool false) ∧ Chg [] w w' := by
  go_enter Try.func12, Try.ntmps12
  go_wp2_with fail
  go_ret
  exact ⟨rfl, Chg.refl _ _⟩
set_option maxRecDepth 100000 in
theorem c_cause (w : World) : Calls Try.prog 5 #[.pointer none] w fun e w' => e = .returned (.tuple #[.nilIface, .bool false]) ∧ Chg [] w w' := by
  go_enter_defers Try.func5, Try.ntmps5
  go_wp2_with fail
  exact ⟨(.tuple #[.nilIface, .bool false] : Value), (by simp only [results, Try.results5]; go_simp), rfl, Chg.refl _ _⟩
set_option maxRecDepth 100000 in
theorem c_cancel0 (w : World) : Calls Try.prog 13 #[.pointer none, .nilIface] w fun e w' => e = .returned (.bool false) ∧ Chg [] w w' := by
  go_enter_defers Try.func13, Try.ntmps13
  go_wp2_with fail
  exact ⟨(.bool false : Value), (by simp only [results, Try.results13]; go_simp), rfl, Chg.refl _ _⟩
theorem c_made (w : World) : Calls Try.prog 14 #[.pointer none] w fun e w' => e = .returned (.int .i64 0) ∧ Chg [] w w' := by
  go_enter Try.func14, Try.ntmps14
  go_wp2_with fail
  go_ret
  exact ⟨rfl, Chg.refl _ _⟩
set_option maxRecDepth 100000 in
theorem c_new (w : World) : Calls Try.prog 10 #[.nilFunc] w fun e w' => e = .returned (.pointer none) ∧ Chg [] w w' := by
  have hx : ∀ w, (binOp .eql 47 .nilFunc .nilFunc).run Try.prog w = .ok (.bool true) w := fun _ => by kernel_rfl
  go_enter Try.func10, Try.ntmps10
  go_wp2_with fail
  go_ret
  exact ⟨rfl, Chg.refl _ _⟩
set_option maxRecDepth 100000 in
theorem c_check (w : World) : Calls Try.prog 23 #[.int .i64 1, .int .i64 1, .nilFunc] w fun e w' => e = .returned (.int .i64 2) ∧ w' = w := by
  have hx : ∀ w, (binOp .eql 82 .nilFunc .nilFunc).run Try.prog w = .ok (.bool true) w := fun _ => by kernel_rfl
  go_enter Try.func23, Try.ntmps23
  go_wp2_with fail
  go_ret
  exact ⟨rfl, rfl⟩
set_option maxRecDepth 100000 in
theorem c_lget (w : World) : Calls Try.prog 6 #[.pointer none] w fun e w' => e = .returned (.tuple #[.int .i64 0, .agg pan0, .int .i64 2]) ∧ Chg [] w w' := by
  go_enter Try.func6, Try.ntmps6
  go_wp2_with fail
  refine bodyPost_ret (v := .tuple #[.int .i64 0, .agg pan0, .int .i64 2]) (by simp only [results, Try.results6, pan0]; go_simp) rfl ?_
  refine ⟨rfl, ?_⟩
  repeat (with_reducible first | exact Chg.refl _ _ | refine Chg.alloc ?_ _ | refine Chg.setCell ?_ (.inr (by simp)) _)
set_option maxRecDepth 100000 in
theorem c_each (w : World) : Calls Try.prog 7 #[.int .i64 1, .int .i64 1, .nilFunc] w fun e w' => e = .returned (.tuple #[.agg out0, .nilIface, .int .i64 2]) ∧ Chg [] w w' := by
  go_enter Try.func7, Try.ntmps7
  go_wp2_with fail
  refine (c_check _).mono ?_
  rintro e w1 ⟨rfl, rfl⟩
  go_wp2_with fail
  refine bodyPost_ret (v := .tuple #[.agg out0, .nilIface, .int .i64 2]) (by simp only [results, Try.results7, out0]; go_simp) rfl ?_
  refine ⟨rfl, ?_⟩
  repeat (with_reducible first | exact Chg.refl _ _ | refine Chg.alloc ?_ _ | refine Chg.setCell ?_ (.inr (by simp)) _)
set_option maxRecDepth 100000 in
theorem c_all (w : World) : Calls Try.prog 8 #[.int .i64 1, .int .i64 1, .nilFunc] w fun e w' => e = .returned (.tuple #[.slice none 0 0, .slice none 0 0, .int .i64 2]) ∧ Chg [] w w' := by
  go_enter Try.func8, Try.ntmps8
  go_wp2_with fail
  refine (c_check _).mono ?_
  rintro e w1 ⟨rfl, rfl⟩
  go_wp2_with fail
  refine bodyPost_ret (v := .tuple #[.slice none 0 0, .slice none 0 0, .int .i64 2]) (by simp only [results, Try.results8]; go_simp) rfl ?_
  refine ⟨rfl, ?_⟩
  repeat (with_reducible first | exact Chg.refl _ _ | refine Chg.alloc ?_ _ | refine Chg.setCell ?_ (.inr (by simp)) _)
set_option maxRecDepth 100000 in
theorem c_run (w : World) : Calls Try.prog 9 #[.pointer none, .int .i64 0, .slice none 0 0] w fun e w' => e = .returned (.tuple #[.agg out0, .int .i64 0, .int .i64 2]) ∧ Chg [] w w' := by
  go_enter Try.func9, Try.ntmps9
  go_wp2_with fail
  refine bodyPost_ret (v := .tuple #[.agg out0, .int .i64 0, .int .i64 2]) (by simp only [results, Try.results9, out0]; go_simp) rfl ?_
  refine ⟨rfl, ?_⟩
  repeat (with_reducible first | exact Chg.refl _ _ | refine Chg.alloc ?_ _ | refine Chg.setCell ?_ (.inr (by simp)) _)

/-- A scope's cells: its lock, whether it is given up, the cause, what is beneath. -/
def scp (lk : Int) (gone : Bool) : Array Value := #[.int .i32 lk, .int .u32 0, .bool gone, .nilIface, .slice none 0 0]
set_option maxRecDepth 100000 in
theorem c_under (w : World) : Calls Try.prog 11 #[.pointer none] w fun e w' => e = .returned (.pointer (some ⟨w.heap.size, 0, none⟩)) ∧ Blk w' w.heap.size 69 (scp 0 false) ∧ Chg [] w w' := by
  go_enter_defers Try.func11, Try.ntmps11
  go_wp2_with fail
  exact ⟨(.pointer (some ⟨w.heap.size, 0, none⟩) : Value), (by simp only [results, Try.results11]; go_simp), rfl, Blk.new _ _ _, (Chg.refl _ _).alloc _⟩

theorem lock_scp (w : World) (g : Nat) (b : Bool) (h : Blk w g 69 (scp 0 b)) :
    Calls Try.prog 16 #[.pointer (some ⟨g, 0, none⟩)] w fun e w' => e = .returned (.tuple #[]) ∧ Blk w' g 69 (scp 1 b) ∧ Chg [g] w w' :=
  (lock_free ⟨g, 0, none⟩ w (h.cell 0) (h.frozen 0)).mono fun _ _ ⟨he, hw⟩ => by subst hw; exact ⟨he, Blk.set_ h 0 _, (Chg.refl [g] w).setCell (.inl (by simp)) _⟩
theorem unlock_scp (w : World) (u : FrameMode) (g : Nat) (b : Bool) (h : Blk w g 69 (scp 1 b)) :
    CallsD Try.prog 17 #[.pointer (some ⟨g, 0, none⟩)] u w fun e u' w' => u' = u ∧ (e = .returned (.tuple #[]) ∧ Blk w' g 69 (scp 0 b) ∧ Chg [g] w w') :=
  (unlock_deferred ⟨g, 0, none⟩ u w (h.cell 0) (h.frozen 0)).mono fun _ _ _ ⟨hu, he, hw⟩ => by subst hw; exact ⟨hu, he, Blk.set_ h 0 _, (Chg.refl [g] w).setCell (.inl (by simp)) _⟩

set_option maxRecDepth 100000 in
theorem c_cancel (w : World) (g : Nat) (h : Blk w g 69 (scp 0 false)) : Calls Try.prog 13 #[.pointer (some ⟨g, 0, none⟩), .nilIface] w fun e w' => e = .returned (.bool true) ∧ Chg [g] w w' := by
  have HB := Lib.hid h
  clear h
  go_enter_defers Try.func13, Try.ntmps13
  go_wp2_with fail
  refine (lock_scp w g false HB.out).mono ?_
  rintro e w1 ⟨rfl, hb1, hc1⟩
  have c2 : w1.cell? ⟨g, 2, none⟩ = some (.bool false) := hb1.cell 2
  have c3 : w1.cell? ⟨g, 3, none⟩ = some .nilIface := hb1.cell 3
  have c4 : w1.cell? ⟨g, 4, none⟩ = some (.slice none 0 0) := hb1.cell 4
  have f2 := hb1.frozen 2
  have f3 := hb1.frozen 3
  have f4 := hb1.frozen 4
  have HB1 := Lib.hid hb1; have HC1 := Lib.hid hc1
  clear hb1 hc1
  go_wp2_with fail
  have hb2 : Blk ((w1.setCell ⟨g, 2, none⟩ (.bool true)).setCell ⟨g, 3, none⟩ .nilIface) g 69 (scp 1 true) := Blk.set_ (Blk.set_ HB1.out 2 _) 3 _
  have hc2 : Chg [g] w ((w1.setCell ⟨g, 2, none⟩ (.bool true)).setCell ⟨g, 3, none⟩ .nilIface) := (HC1.out.setCell (.inl (by simp)) _).setCell (.inl (by simp)) _
  clear c2 c3 c4 f2 f3 f4
  generalize (w1.setCell ⟨g, 2, none⟩ (.bool true)).setCell ⟨g, 3, none⟩ .nilIface = w2 at *
  have c4 : w2.cell? ⟨g, 4, none⟩ = some (.slice none 0 0) := hb2.cell 4
  have f4 := hb2.frozen 4
  have HB2 := Lib.hid hb2; have HC2 := Lib.hid hc2
  clear hb2 hc2
  go_loopg [32] 0 (fun _ i wr => i = .int .i64 0 ∧ wr = w2)
  case atStart => exact ⟨rfl, rfl⟩
  case round =>
    obtain ⟨rfl, rfl⟩ := hrel
    go_wp2_with fail
    have hb3 : Blk (wr.setCell ⟨g, 4, none⟩ (.slice none 0 0)) g 69 (scp 1 true) := Blk.set_ HB2.out 4 _
    refine leaves_cons (f := 17) (args := #[.pointer (some ⟨g, 0, none⟩)]) (by simp) (by simp [go_sem]) ?_
    refine (unlock_scp _ .returning g true hb3).mono ?_
    rintro e u' w7 ⟨rfl, rfl, hb7, hc7⟩
    exact ⟨(.bool true : Value), (by simp only [results, Try.results13]; go_simp), rfl, (HC2.out.setCell (.inl (by simp)) _).trans hc7⟩

set_option maxRecDepth 100000 in
set_option maxHeartbeats 4000000 in
theorem walk_names (w : World) : Calls Try.prog 3 #[] w fun e w' => e = .returned (.bool true) ∧ Below w.heap.size w w' := by
  go_enter Try.func3, Try.ntmps3
  go_wp2_with fail
  refine (c_get _).mono ?_
  rintro e w1 ⟨rfl, hc⟩
  have HC1 := Lib.hid hc
  clear hc
  go_wp2_with fail
  refine (c_cause _).mono ?_
  rintro e w2 ⟨rfl, hc⟩
  have HC2 := Lib.hid (HC1.out.trans hc)
  clear hc
  go_wp2_with fail
  refine (c_lget _).mono ?_
  rintro e w3 ⟨rfl, hc⟩
  simp only [pan0]
  have HC3 := Lib.hid (HC2.out.trans hc)
  clear hc HC1 HC2
  go_wp2_with fail
  have hb9 := Blk.new w3 30 pan0
  have hc := HC3.out.alloc (.cells pan0 30)
  refine (c_each _).mono ?_
  rintro e w4 ⟨rfl, hd⟩
  have HB4 := Lib.hid (hb9.chg hd (by simp)); have HC4 := Lib.hid (hc.trans hd)
  simp only [out0]
  clear hb9 hc hd
  go_wp2_with fail
  have hb9 := Blk.new w4 35 out0
  have hc := HC4.out.alloc (.cells out0 35)
  refine (c_all _).mono ?_
  rintro e w5 ⟨rfl, hd⟩
  have HB5 := Lib.hid ((HB4.out.alloc _).chg hd (by simp)); have HD5 := Lib.hid (hb9.chg hd (by simp)); have HC5 := Lib.hid (hc.trans hd)
  clear hb9 hc hd
  go_wp2_with fail
  refine (c_run _).mono ?_
  rintro e w6 ⟨rfl, hd⟩
  have HB6 := Lib.hid (HB5.out.chg hd (by simp)); have HD6 := Lib.hid (HD5.out.chg hd (by simp)); have HC6 := Lib.hid (HC5.out.trans hd)
  simp only [out0]
  clear hd
  go_wp2_with fail
  have hb9 := Blk.new w6 35 out0
  have hc := HC6.out.alloc (.cells out0 35)
  refine (c_new _).mono ?_
  rintro e w7 ⟨rfl, hd⟩
  have HB7 := Lib.hid ((HB6.out.alloc _).chg hd (by simp)); have HD7 := Lib.hid ((HD6.out.alloc _).chg hd (by simp)); have HE7 := Lib.hid (hb9.chg hd (by simp)); have HC7 := Lib.hid (hc.trans hd)
  clear hb9 hc hd
  go_wp2_with fail
  refine (c_under _).mono ?_
  rintro e w8 ⟨rfl, hs, hd⟩
  have HS8 := Lib.hid hs; have HB8 := Lib.hid (HB7.out.chg hd (by simp)); have HD8 := Lib.hid (HD7.out.chg hd (by simp)); have HE8 := Lib.hid (HE7.out.chg hd (by simp)); have HC8 := Lib.hid (HC7.out.trans hd)
  have hg : w.heap.size ≤ w7.heap.size := HC7.out.size
  clear hs hd
  go_wp2_with fail
  refine (c_set _).mono ?_
  rintro e w9 ⟨rfl, hd⟩
  have HS9 := Lib.hid (HS8.out.chg hd (by simp)); have HB9 := Lib.hid (HB8.out.chg hd (by simp)); have HD9 := Lib.hid (HD8.out.chg hd (by simp)); have HE9 := Lib.hid (HE8.out.chg hd (by simp)); have HC9 := Lib.hid (HC8.out.trans hd)
  clear hd
  go_wp2_with fail
  refine (c_cancel0 _).mono ?_
  rintro e w10 ⟨rfl, hd⟩
  have HS10 := Lib.hid (HS9.out.chg hd (by simp)); have HB10 := Lib.hid (HB9.out.chg hd (by simp)); have HD10 := Lib.hid (HD9.out.chg hd (by simp)); have HE10 := Lib.hid (HE9.out.chg hd (by simp)); have HC10 := Lib.hid (HC9.out.trans hd)
  clear hd
  have p0 : w10.cell? ⟨w3.heap.size, 0, none⟩ = some (.int .i64 0) := HB10.out.cell 0
  have p1 : w10.cell? ⟨w3.heap.size, 1, none⟩ = some (.string ⟨#[]⟩) := HB10.out.cell 1
  have p2 : w10.cell? ⟨w3.heap.size, 2, none⟩ = some (.int .i64 0) := HB10.out.cell 2
  go_wp2_with fail
  refine (c_made _).mono ?_
  rintro e w11 ⟨rfl, hd⟩
  have HS11 := Lib.hid (HS10.out.chg hd (by simp)); have HD11 := Lib.hid (HD10.out.chg hd (by simp)); have HE11 := Lib.hid (HE10.out.chg hd (by simp)); have HC11 := Lib.hid (HC10.out.trans hd)
  clear hd p0 p1 p2
  have p0 : w11.cell? ⟨w4.heap.size, 0, none⟩ = some (.int .i64 0) := HD11.out.cell 0
  have p1 : w11.cell? ⟨w4.heap.size, 1, none⟩ = some (.int .i64 0) := HD11.out.cell 1
  have p2 : w11.cell? ⟨w4.heap.size, 2, none⟩ = some (.string ⟨#[]⟩) := HD11.out.cell 2
  have p3 : w11.cell? ⟨w4.heap.size, 3, none⟩ = some (.int .i64 0) := HD11.out.cell 3
  have p4 : w11.cell? ⟨w4.heap.size, 4, none⟩ = some (.int .i64 0) := HD11.out.cell 4
  have q0 : w11.cell? ⟨w6.heap.size, 0, none⟩ = some (.int .i64 0) := HE11.out.cell 0
  have q1 : w11.cell? ⟨w6.heap.size, 1, none⟩ = some (.int .i64 0) := HE11.out.cell 1
  have q2 : w11.cell? ⟨w6.heap.size, 2, none⟩ = some (.string ⟨#[]⟩) := HE11.out.cell 2
  have q3 : w11.cell? ⟨w6.heap.size, 3, none⟩ = some (.int .i64 0) := HE11.out.cell 3
  have q4 : w11.cell? ⟨w6.heap.size, 4, none⟩ = some (.int .i64 0) := HE11.out.cell 4
  go_wp2_with fail
  refine (c_cancel w11 w7.heap.size HS11.out).mono ?_
  rintro e w12 ⟨rfl, hd⟩
  have HC12 := Lib.hid (HC11.out.trans' hd (fun b hb => .inr (by simp at hb; omega)))
  clear hd p0 p1 p2 p3 p4 q0 q1 q2 q3 q4
  go_wp2_with fail
  go_ret
  exact ⟨rfl, HC12.out.below (Nat.le_refl _) (by simp)⟩
end Go.Proofs.Ytbagiohmnmlccaa
