/-
  A registry that is not there; a book that is not there.
-/
import Derived.Test.YtacijlfckmllcaaGreatDoorProg
import Derived.Test.YtacijlfckmllcaaGreatDoorBase
import Derived.WalkKit
import Derived.WalkLawsBesides
import Derived.WalkSpells
import Derived.BigQuiet
import Derived.Deep.QuietTactic
import Derived.Deep.RegionHeld3
import Derived.Defers
import Derived.Laws.Entries
import Derived.KernelRfl
namespace Go.Proofs.YtacijlfckmllcaaGreatDoor
open Go.RowKit

def zrow : Value := .agg #[.string ⟨#[]⟩, .int .u8 0, .int .u32 0]

theorem nnamed (nm : ByteArray) (w : World) : Calls Tryz.prog 12 #[.pointer none, .string nm] w fun e w' => e = .returned (.tuple #[zrow, .int .i64 2]) ∧ Chg [] w w' := by
  go_enter Tryz.func12, Tryz.ntmps12
  go_wp2_with fail
  refine bodyPost_ret (v := .tuple #[zrow, .int .i64 2]) (by simp only [results, Tryz.results12, zrow]; go_simp) rfl ?_
  refine ⟨rfl, ?_⟩
  repeat (with_reducible first | exact (Chg.refl [] w).alloc _ | refine Chg.setCell ?_ (.inr (Nat.le_refl _)) _)
theorem nof (k : Int) (w : World) : Calls Tryz.prog 18 #[.pointer none, .int .u8 k] w fun e w' => e = .returned (.tuple #[zrow, .int .i64 2]) ∧ Chg [] w w' := by
  go_enter Tryz.func18, Tryz.ntmps18
  go_wp2_with fail
  refine bodyPost_ret (v := .tuple #[zrow, .int .i64 2]) (by simp only [results, Tryz.results18, zrow]; go_simp) rfl ?_
  refine ⟨rfl, ?_⟩
  repeat (with_reducible first | exact (Chg.refl [] w).alloc _ | refine Chg.setCell ?_ (.inr (Nat.le_refl _)) _)
theorem nenter (nm : ByteArray) (k f : Int) (w : World) : Calls Tryz.prog 8 #[.pointer none, .agg #[.string nm, .int .u8 k, .int .u32 f]] w fun e w' => e = .returned (.int .i64 2) ∧ Chg [] w w' := by
  go_enter_defers Tryz.func8, Tryz.ntmps8
  go_wp2_with fail
  exact ⟨(.int .i64 2 : Value), (by simp only [results, Tryz.results8]; go_simp), rfl, (Chg.refl _ _).alloc _⟩
theorem nfrozens (w : World) : Calls Tryz.prog 14 #[.pointer none] w fun e w' => e = .returned (.int .i64 0) ∧ Chg [] w w' := by
  go_enter_defers Tryz.func14, Tryz.ntmps14
  go_wp2_with fail
  exact ⟨(.int .i64 0 : Value), (by simp only [results, Tryz.results14]; go_simp), rfl, Chg.refl _ _⟩
theorem nfrozen (w : World) : Calls Tryz.prog 9 #[.pointer none] w fun e w' => e = .returned (.bool false) ∧ Chg [] w w' := by
  go_enter Tryz.func9, Tryz.ntmps9
  go_wp2_with fail
  refine (nfrozens _).mono ?_
  rintro e w1 ⟨rfl, hc⟩
  have HC := Lib.hid hc; clear hc
  go_wp2_with fail
  go_ret
  exact ⟨rfl, HC.out⟩
theorem nroll (w : World) : Calls Tryz.prog 10 #[.pointer none] w fun e w' => e = .returned (.slice none 0 0) ∧ Chg [] w w' := by
  go_enter Tryz.func10, Tryz.ntmps10
  go_wp2_with fail
  go_ret
  exact ⟨rfl, Chg.refl _ _⟩
theorem nrefused (w : World) : Calls Tryz.prog 11 #[.pointer none] w fun e w' => e = .returned (.slice none 0 0) ∧ Chg [] w w' := by
  go_enter Tryz.func11, Tryz.ntmps11
  go_wp2_with fail
  go_ret
  exact ⟨rfl, Chg.refl _ _⟩

def zspec : Array Value := #[.int .u8 0, .bool false, .string ⟨#[]⟩, .int .i16 0, .int .i8 0, .float .f64 0, .float .f64 0, .bool false, .int .u32 0, .slice none 0 0, .slice none 0 0]
def zbrow : Array Value := #[.nilIface, .int .u8 0, .bool false, .string ⟨#[]⟩, .int .i16 0, .int .i8 0, .float .f64 0, .float .f64 0, .bool false, .int .u32 0, .slice none 0 0, .slice none 0 0, .int .i64 0, .int .i64 0, .int .i64 0, .int .i64 0]

def AtPost (w : World) (e : Ending) (w' : World) : Prop := e = .returned (.tuple #[.pointer (some ⟨w.heap.size, 0, none⟩), .int .i64 2]) ∧ Blk w' w.heap.size 169 zbrow ∧ Chg [] w w'
theorem nat_ (h : Int) (w : World) : Calls Tryz.prog 57 #[.pointer none, .int .i64 h] w (AtPost w) := by
  go_enter Tryz.func57, Tryz.ntmps57
  go_wp2_with fail
  go_ret2
  exact ⟨rfl, Blk.new _ _ _, (Chg.refl _ _).alloc _⟩
theorem nmade (h : Int) (w : World) : Calls Tryz.prog 58 #[.pointer none, .int .i64 h] w (AtPost w) := by
  go_enter Tryz.func58, Tryz.ntmps58
  go_wp2_with fail
  refine (nat_ h w).mono ?_
  rintro e w1 ⟨rfl, hb, hc⟩
  have HB := Lib.hid hb; have HC := Lib.hid hc
  clear hb hc
  go_wp2_with fail
  go_ret2
  exact ⟨rfl, HB.out, HC.out⟩
theorem nerror (h : Int) (w : World) : Calls Tryz.prog 31 #[.pointer none, .int .i64 h] w fun e w' => e = .returned (.tuple #[.nilIface, .int .i64 2]) ∧ Chg [] w w' := by
  go_enter Tryz.func31, Tryz.ntmps31
  go_wp2_with fail
  refine (nat_ h w).mono ?_
  rintro e w1 ⟨rfl, hb, hc⟩
  have c0 : w1.cell? ⟨w.heap.size, 0, none⟩ = some .nilIface := hb.cell 0
  have HC := Lib.hid hc
  clear hb hc
  go_wp2_with fail
  go_ret2
  exact ⟨rfl, HC.out⟩

theorem is1 (w : World) : Calls Tryz.prog 38 #[.nilIface, .int .u8 1] w fun e w' => e = .returned (.int .u32 0) ∧ w = w' := by
  have hx : ∀ w, (Instr.typeAssert .nilIface 20 70 true).run Tryz.prog w = .ok (.tuple #[.nilIface, .bool false]) w := fun _ => by kernel_rfl
  go_enter Tryz.func38, Tryz.ntmps38
  go_wp2_with fail
  go_ret
  exact ⟨rfl, rfl⟩
theorem is2 (w : World) : Calls Tryz.prog 39 #[.nilIface, .int .u8 2] w fun e w' => e = .returned (.int .u32 0) ∧ w = w' := by
  have hx : ∀ w, (Instr.typeAssert .nilIface 20 90 true).run Tryz.prog w = .ok (.tuple #[.nilIface, .bool false]) w := fun _ => by kernel_rfl
  go_enter Tryz.func39, Tryz.ntmps39
  go_wp2_with fail
  go_ret
  exact ⟨rfl, rfl⟩
theorem is3 (w : World) : Calls Tryz.prog 40 #[.nilIface, .int .u8 3] w fun e w' => e = .returned (.int .u32 0) ∧ w = w' := by
  have hx : ∀ w, (Instr.typeAssert .nilIface 20 92 true).run Tryz.prog w = .ok (.tuple #[.nilIface, .bool false]) w := fun _ => by kernel_rfl
  go_enter Tryz.func40, Tryz.ntmps40
  go_wp2_with fail
  go_ret
  exact ⟨rfl, rfl⟩
theorem is4 (w : World) : Calls Tryz.prog 41 #[.nilIface, .int .u8 4] w fun e w' => e = .returned (.int .u32 0) ∧ w = w' := by
  have hx : ∀ w, (Instr.typeAssert .nilIface 20 94 true).run Tryz.prog w = .ok (.tuple #[.nilIface, .bool false]) w := fun _ => by kernel_rfl
  go_enter Tryz.func41, Tryz.ntmps41
  go_wp2_with fail
  go_ret
  exact ⟨rfl, rfl⟩
theorem is5 (w : World) : Calls Tryz.prog 42 #[.nilIface, .int .u8 5] w fun e w' => e = .returned (.int .u32 0) ∧ w = w' := by
  have hx : ∀ w, (Instr.typeAssert .nilIface 20 96 true).run Tryz.prog w = .ok (.tuple #[.nilIface, .bool false]) w := fun _ => by kernel_rfl
  go_enter Tryz.func42, Tryz.ntmps42
  go_wp2_with fail
  go_ret
  exact ⟨rfl, rfl⟩
theorem is6 (w : World) : Calls Tryz.prog 43 #[.nilIface, .int .u8 6] w fun e w' => e = .returned (.int .u32 0) ∧ w = w' := by
  have hx : ∀ w, (Instr.typeAssert .nilIface 20 98 true).run Tryz.prog w = .ok (.tuple #[.nilIface, .bool false]) w := fun _ => by kernel_rfl
  go_enter Tryz.func43, Tryz.ntmps43
  go_wp2_with fail
  go_ret
  exact ⟨rfl, rfl⟩
theorem is7 (w : World) : Calls Tryz.prog 44 #[.nilIface, .int .u8 7] w fun e w' => e = .returned (.int .u32 0) ∧ w = w' := by
  have hx : ∀ w, (Instr.typeAssert .nilIface 20 100 true).run Tryz.prog w = .ok (.tuple #[.nilIface, .bool false]) w := fun _ => by kernel_rfl
  go_enter Tryz.func44, Tryz.ntmps44
  go_wp2_with fail
  go_ret
  exact ⟨rfl, rfl⟩
theorem is8 (w : World) : Calls Tryz.prog 45 #[.nilIface, .int .u8 8] w fun e w' => e = .returned (.int .u32 0) ∧ w = w' := by
  have hx : ∀ w, (Instr.typeAssert .nilIface 20 102 true).run Tryz.prog w = .ok (.tuple #[.nilIface, .bool false]) w := fun _ => by kernel_rfl
  go_enter Tryz.func45, Tryz.ntmps45
  go_wp2_with fail
  go_ret
  exact ⟨rfl, rfl⟩
theorem is9 (w : World) : Calls Tryz.prog 46 #[.nilIface, .int .u8 9] w fun e w' => e = .returned (.int .u32 0) ∧ w = w' := by
  have hx : ∀ w, (Instr.typeAssert .nilIface 20 104 true).run Tryz.prog w = .ok (.tuple #[.nilIface, .bool false]) w := fun _ => by kernel_rfl
  go_enter Tryz.func46, Tryz.ntmps46
  go_wp2_with fail
  go_ret
  exact ⟨rfl, rfl⟩
theorem is10 (w : World) : Calls Tryz.prog 47 #[.nilIface, .int .u8 10] w fun e w' => e = .returned (.int .u32 0) ∧ w = w' := by
  have hx : ∀ w, (Instr.typeAssert .nilIface 20 106 true).run Tryz.prog w = .ok (.tuple #[.nilIface, .bool false]) w := fun _ => by kernel_rfl
  go_enter Tryz.func47, Tryz.ntmps47
  go_wp2_with fail
  go_ret
  exact ⟨rfl, rfl⟩
theorem is11 (w : World) : Calls Tryz.prog 48 #[.nilIface, .int .u8 11] w fun e w' => e = .returned (.int .u32 0) ∧ w = w' := by
  have hx : ∀ w, (Instr.typeAssert .nilIface 20 108 true).run Tryz.prog w = .ok (.tuple #[.nilIface, .bool false]) w := fun _ => by kernel_rfl
  go_enter Tryz.func48, Tryz.ntmps48
  go_wp2_with fail
  go_ret
  exact ⟨rfl, rfl⟩
theorem is12 (w : World) : Calls Tryz.prog 49 #[.nilIface, .int .u8 12] w fun e w' => e = .returned (.int .u32 0) ∧ w = w' := by
  have hx : ∀ w, (Instr.typeAssert .nilIface 20 110 true).run Tryz.prog w = .ok (.tuple #[.nilIface, .bool false]) w := fun _ => by kernel_rfl
  go_enter Tryz.func49, Tryz.ntmps49
  go_wp2_with fail
  go_ret
  exact ⟨rfl, rfl⟩
theorem is13 (w : World) : Calls Tryz.prog 50 #[.nilIface, .int .u8 13] w fun e w' => e = .returned (.int .u32 0) ∧ w = w' := by
  have hx : ∀ w, (Instr.typeAssert .nilIface 20 112 true).run Tryz.prog w = .ok (.tuple #[.nilIface, .bool false]) w := fun _ => by kernel_rfl
  go_enter Tryz.func50, Tryz.ntmps50
  go_wp2_with fail
  go_ret
  exact ⟨rfl, rfl⟩
theorem is14 (w : World) : Calls Tryz.prog 51 #[.nilIface, .int .u8 14] w fun e w' => e = .returned (.int .u32 0) ∧ w = w' := by
  have hx : ∀ w, (Instr.typeAssert .nilIface 20 114 true).run Tryz.prog w = .ok (.tuple #[.nilIface, .bool false]) w := fun _ => by kernel_rfl
  go_enter Tryz.func51, Tryz.ntmps51
  go_wp2_with fail
  go_ret
  exact ⟨rfl, rfl⟩
theorem is15 (w : World) : Calls Tryz.prog 52 #[.nilIface, .int .u8 15] w fun e w' => e = .returned (.int .u32 0) ∧ w = w' := by
  have hx : ∀ w, (Instr.typeAssert .nilIface 20 116 true).run Tryz.prog w = .ok (.tuple #[.nilIface, .bool false]) w := fun _ => by kernel_rfl
  go_enter Tryz.func52, Tryz.ntmps52
  go_wp2_with fail
  go_ret
  exact ⟨rfl, rfl⟩
theorem is16 (w : World) : Calls Tryz.prog 53 #[.nilIface, .int .u8 16] w fun e w' => e = .returned (.int .u32 0) ∧ w = w' := by
  have hx : ∀ w, (Instr.typeAssert .nilIface 20 118 true).run Tryz.prog w = .ok (.tuple #[.nilIface, .bool false]) w := fun _ => by kernel_rfl
  go_enter Tryz.func53, Tryz.ntmps53
  go_wp2_with fail
  go_ret
  exact ⟨rfl, rfl⟩
theorem is17 (w : World) : Calls Tryz.prog 54 #[.nilIface, .int .u8 17] w fun e w' => e = .returned (.int .u32 0) ∧ w = w' := by
  have hx : ∀ w, (Instr.typeAssert .nilIface 20 120 true).run Tryz.prog w = .ok (.tuple #[.nilIface, .bool false]) w := fun _ => by kernel_rfl
  go_enter Tryz.func54, Tryz.ntmps54
  go_wp2_with fail
  go_ret
  exact ⟨rfl, rfl⟩
theorem is18 (w : World) : Calls Tryz.prog 55 #[.nilIface, .int .u8 18] w fun e w' => e = .returned (.int .u32 0) ∧ w = w' := by
  have hx : ∀ w, (Instr.typeAssert .nilIface 20 122 true).run Tryz.prog w = .ok (.tuple #[.nilIface, .bool false]) w := fun _ => by kernel_rfl
  go_enter Tryz.func55, Tryz.ntmps55
  go_wp2_with fail
  go_ret
  exact ⟨rfl, rfl⟩
theorem is19 (w : World) : Calls Tryz.prog 56 #[.nilIface, .int .u8 19] w fun e w' => e = .returned (.int .u32 0) ∧ w = w' := by
  have hx : ∀ w, (Instr.typeAssert .nilIface 20 20 true).run Tryz.prog w = .ok (.tuple #[.nilIface, .bool false]) w := fun _ => by kernel_rfl
  go_enter Tryz.func56, Tryz.ntmps56
  go_wp2_with fail
  go_ret
  exact ⟨rfl, rfl⟩

theorem held0 (w : World) : Calls Tryz.prog 29 #[.nilIface] w fun e w' => e = .returned (.int .u32 0) ∧ w = w' := by
  go_enter Tryz.func29, Tryz.ntmps29
  go_wp2_with fail
  refine (is1 _).mono ?_
  rintro e w' ⟨rfl, rfl⟩
  go_wp2_with fail
  refine (is2 _).mono ?_
  rintro e w' ⟨rfl, rfl⟩
  go_wp2_with fail
  refine (is3 _).mono ?_
  rintro e w' ⟨rfl, rfl⟩
  go_wp2_with fail
  refine (is4 _).mono ?_
  rintro e w' ⟨rfl, rfl⟩
  go_wp2_with fail
  refine (is5 _).mono ?_
  rintro e w' ⟨rfl, rfl⟩
  go_wp2_with fail
  refine (is6 _).mono ?_
  rintro e w' ⟨rfl, rfl⟩
  go_wp2_with fail
  refine (is7 _).mono ?_
  rintro e w' ⟨rfl, rfl⟩
  go_wp2_with fail
  refine (is8 _).mono ?_
  rintro e w' ⟨rfl, rfl⟩
  go_wp2_with fail
  refine (is9 _).mono ?_
  rintro e w' ⟨rfl, rfl⟩
  go_wp2_with fail
  refine (is10 _).mono ?_
  rintro e w' ⟨rfl, rfl⟩
  go_wp2_with fail
  refine (is11 _).mono ?_
  rintro e w' ⟨rfl, rfl⟩
  go_wp2_with fail
  refine (is12 _).mono ?_
  rintro e w' ⟨rfl, rfl⟩
  go_wp2_with fail
  refine (is13 _).mono ?_
  rintro e w' ⟨rfl, rfl⟩
  go_wp2_with fail
  refine (is14 _).mono ?_
  rintro e w' ⟨rfl, rfl⟩
  go_wp2_with fail
  refine (is15 _).mono ?_
  rintro e w' ⟨rfl, rfl⟩
  go_wp2_with fail
  refine (is16 _).mono ?_
  rintro e w' ⟨rfl, rfl⟩
  go_wp2_with fail
  refine (is17 _).mono ?_
  rintro e w' ⟨rfl, rfl⟩
  go_wp2_with fail
  refine (is18 _).mono ?_
  rintro e w' ⟨rfl, rfl⟩
  go_wp2_with fail
  refine (is19 _).mono ?_
  rintro e w' ⟨rfl, rfl⟩
  go_wp2_with fail
  go_ret
  exact ⟨rfl, rfl⟩
end Go.Proofs.YtacijlfckmllcaaGreatDoor
