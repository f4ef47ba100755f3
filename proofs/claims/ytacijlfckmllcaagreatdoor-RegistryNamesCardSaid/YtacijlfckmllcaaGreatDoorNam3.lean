/-
  The law of the numbers of chapter 17.
-/
import Derived.Test.YtacijlfckmllcaaGreatDoorNam2
namespace Go.Proofs.YtacijlfckmllcaaGreatDoor
open Go.RowKit

set_option maxRecDepth 100000 in
set_option maxHeartbeats 1000000 in
theorem nspec (w : World) : Calls Tryz.prog 32 #[.pointer none, .int .i64 0] w fun e w' => e = .returned (.tuple #[.agg zspec, .int .i64 2]) ∧ Chg [] w w' := by
  have hsf := fun (w : World) (a : Addr) (k : FloatKind) x m => (run_store Tryz.prog w a (.float k x) m rfl : (store a (.float k x) m).run Tryz.prog w = stored Tryz.prog w a (.float k x) m)
  go_enter Tryz.func32, Tryz.ntmps32
  go_wp2_with fail
  refine (nmade 0 _).mono ?_
  rintro e w1 ⟨rfl, hb, hc⟩
  have hz : Blk w1 w.heap.size 80 zspec := (Blk.new w 80 zspec).chg hc (by simp)
  have c1 := hb.cell 1; have c2 := hb.cell 2; have c3 := hb.cell 3; have c4 := hb.cell 4; have c5 := hb.cell 5; have c6 := hb.cell 6; have c7 := hb.cell 7; have c8 := hb.cell 8; have c9 := hb.cell 9; have c10 := hb.cell 10; have c11 := hb.cell 11
  simp [zbrow] at c1 c2 c3 c4 c5 c6 c7 c8 c9 c10 c11
  have HZ := Lib.hid hz; have HC := Lib.hid hc
  clear hb hc hz
  go_wp2_with fail
  refine (ntwin _).mono ?_
  rintro e w2 ⟨rfl, hc2⟩
  have hz2 := HZ.out.chg hc2 (by simp)
  have z0 := hz2.cell 0; have z1 := hz2.cell 1; have z2 := hz2.cell 2; have z3 := hz2.cell 3; have z4 := hz2.cell 4; have z5 := hz2.cell 5; have z6 := hz2.cell 6; have z7 := hz2.cell 7; have z8 := hz2.cell 8; have z9 := hz2.cell 9; have z10 := hz2.cell 10
  have f0 := hz2.frozen 0; have f1 := hz2.frozen 1; have f2 := hz2.frozen 2; have f3 := hz2.frozen 3; have f4 := hz2.frozen 4; have f5 := hz2.frozen 5; have f6 := hz2.frozen 6; have f7 := hz2.frozen 7; have f8 := hz2.frozen 8; have f9 := hz2.frozen 9; have f10 := hz2.frozen 10
  simp [zspec] at z0 z1 z2 z3 z4 z5 z6 z7 z8 z9 z10
  have HC2 := Lib.hid (((Chg.refl [] w).alloc (.cells zspec 80)).trans (HC.out.trans hc2))
  clear hc2 hz2 c1 c2 c3 c4 c5 c6 c7 c8 c9 c10 c11
  simp only [zspec]
  go_wp2_with fail
  refine bodyPost_ret (v := .tuple #[.agg zspec, .int .i64 2]) (by simp only [results, Tryz.results32, zspec]; go_simp) rfl ?_
  refine ⟨rfl, ?_⟩
  repeat (with_reducible first | exact HC2.out | refine Chg.drew ?_ | refine Chg.alloc ?_ _ | refine Chg.setCell ?_ (.inr (Nat.le_refl _)) _)

set_option maxRecDepth 100000 in
set_option maxHeartbeats 1000000 in
theorem nname (w : World) : Calls Tryz.prog 21 #[.pointer none, .int .i64 0] w fun e w' => e = .returned (.tuple #[.string ⟨#[]⟩, .int .i64 2]) ∧ Chg [] w w' := by
  have hsf := fun (w : World) (a : Addr) (k : FloatKind) x m => (run_store Tryz.prog w a (.float k x) m rfl : (store a (.float k x) m).run Tryz.prog w = stored Tryz.prog w a (.float k x) m)
  go_enter Tryz.func21, Tryz.ntmps21
  go_wp2_with fail
  refine (nspec _).mono ?_
  rintro e w1 ⟨rfl, hc⟩
  have HC := Lib.hid hc
  clear hc
  simp only [zspec]
  go_wp2_with fail
  go_ret2
  exact ⟨rfl, HC.out.alloc _⟩

set_option maxRecDepth 100000 in
set_option maxHeartbeats 4000000 in
theorem walk_names (w : World) : Calls Tryz.prog 5 #[] w fun e w' => e = .returned (.bool true) ∧ Below w.heap.size w w' := by
  go_enter Tryz.func5, Tryz.ntmps5
  go_wp2_with fail
  refine (nnamed _ _).mono ?_
  rintro e w1 ⟨rfl, hc1⟩
  have HC1 := Lib.hid hc1; clear hc1
  simp only [zrow]
  go_wp2_with fail
  refine (nof _ _).mono ?_
  rintro e w2 ⟨rfl, hc2⟩
  have hx : Blk w2 w1.heap.size 30 #[.string ⟨#[]⟩, .int .u8 0, .int .u32 0] := (Blk.new w1 _ _).chg hc2 (by simp)
  have HX := Lib.hid hx
  have HC2 := Lib.hid ((HC1.out.alloc _).trans hc2)
  clear hc2 hx
  simp only [zrow]
  go_wp2_with fail
  refine (nfaces _).mono ?_
  rintro e w3 ⟨rfl, hc3⟩
  have hx : Blk w3 w1.heap.size 30 #[.string ⟨#[]⟩, .int .u8 0, .int .u32 0] := (HX.out.alloc _).chg hc3 (by simp)
  have hy : Blk w3 w2.heap.size 30 #[.string ⟨#[]⟩, .int .u8 0, .int .u32 0] := (Blk.new w2 _ _).chg hc3 (by simp)
  have HX3 := Lib.hid hx; have HY3 := Lib.hid hy
  have HC3 := Lib.hid ((HC2.out.alloc _).trans hc3)
  clear hc3 hx hy HX
  go_wp2_with fail
  refine (nname _).mono ?_
  rintro e w4 ⟨rfl, hc4⟩
  have HX4 := Lib.hid (HX3.out.chg hc4 (by simp)); have HY4 := Lib.hid (HY3.out.chg hc4 (by simp))
  have HC4 := Lib.hid (HC3.out.trans hc4)
  clear hc4 HX3 HY3
  go_wp2_with fail
  refine (nenter _ _ _ _).mono ?_
  rintro e w5 ⟨rfl, hc5⟩
  obtain ⟨⟨x0, x1, x2⟩, -⟩ := (HX4.out.chg hc5 (by simp)).three
  obtain ⟨⟨y0, y1, y2⟩, -⟩ := (HY4.out.chg hc5 (by simp)).three
  have HC5 := Lib.hid (HC4.out.trans hc5)
  clear hc5
  go_wp2_with fail
  refine (nfrozen _).mono ?_
  rintro e w6 ⟨rfl, hc6⟩
  have HC6 := Lib.hid (HC5.out.trans hc6)
  clear hc6
  go_wp2_with fail
  refine (nfrozens _).mono ?_
  rintro e w7 ⟨rfl, hc7⟩
  have HC7 := Lib.hid (HC6.out.trans hc7)
  clear hc7
  go_wp2_with fail
  refine (nroll _).mono ?_
  rintro e w8 ⟨rfl, hc8⟩
  have HC8 := Lib.hid (HC7.out.trans hc8)
  clear hc8
  go_wp2_with fail
  refine (nrefused _).mono ?_
  rintro e w9 ⟨rfl, hc9⟩
  have HC9 := Lib.hid (HC8.out.trans hc9)
  clear hc9
  go_wp2_with fail
  go_ret
  exact ⟨rfl, HC9.out.below (Nat.le_refl _) (by simp)⟩
end Go.Proofs.YtacijlfckmllcaaGreatDoor
