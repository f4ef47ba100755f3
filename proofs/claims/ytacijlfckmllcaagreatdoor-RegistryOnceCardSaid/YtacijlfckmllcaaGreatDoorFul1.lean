/-
  Which faces a value of each kind's type holds, as the program asks it. (Printed by wip/tools/gen_ful1.py.)
-/
import Derived.Test.YtacijlfckmllcaaGreatDoorProg
import Derived.Test.YtacijlfckmllcaaGreatDoorBase
import Derived.WalkKit
import Derived.WalkLawsBesides
import Derived.WalkSpells
import Derived.KernelRfl
import Derived.Stop.Asserts
namespace Go.Proofs.YtacijlfckmllcaaGreatDoor
open Go.RowKit

def Faced (x : Value) (X : TypeId) (b : Bool) : Prop := ∀ w, (Instr.typeAssert x 20 X true).run Tryz.prog w = .ok (.tuple #[if b then x else .nilIface, .bool b]) w

theorem isa1 (x : Value) (b : Bool) (h : Faced x 70 b) (w : World) : Calls Tryz.prog 38 #[x, .int .u8 1] w fun e w' => e = .returned (.int .u32 (if b then 2 else 0)) ∧ w = w' := by
  cases b
  · have hx : ∀ w, (Instr.typeAssert x 20 70 true).run Tryz.prog w = .ok (.tuple #[.nilIface, .bool false]) w := h
    clear h
    go_enter Tryz.func38, Tryz.ntmps38
    go_wp2_with fail
    go_ret
    exact ⟨rfl, rfl⟩
  · have hx : ∀ w, (Instr.typeAssert x 20 70 true).run Tryz.prog w = .ok (.tuple #[x, .bool true]) w := h
    clear h
    go_enter Tryz.func38, Tryz.ntmps38
    go_wp2_with fail
    go_ret
    exact ⟨rfl, rfl⟩
theorem isa2 (x : Value) (b : Bool) (h : Faced x 90 b) (w : World) : Calls Tryz.prog 39 #[x, .int .u8 2] w fun e w' => e = .returned (.int .u32 (if b then 4 else 0)) ∧ w = w' := by
  cases b
  · have hx : ∀ w, (Instr.typeAssert x 20 90 true).run Tryz.prog w = .ok (.tuple #[.nilIface, .bool false]) w := h
    clear h
    go_enter Tryz.func39, Tryz.ntmps39
    go_wp2_with fail
    go_ret
    exact ⟨rfl, rfl⟩
  · have hx : ∀ w, (Instr.typeAssert x 20 90 true).run Tryz.prog w = .ok (.tuple #[x, .bool true]) w := h
    clear h
    go_enter Tryz.func39, Tryz.ntmps39
    go_wp2_with fail
    go_ret
    exact ⟨rfl, rfl⟩
theorem isa3 (x : Value) (b : Bool) (h : Faced x 92 b) (w : World) : Calls Tryz.prog 40 #[x, .int .u8 3] w fun e w' => e = .returned (.int .u32 (if b then 8 else 0)) ∧ w = w' := by
  cases b
  · have hx : ∀ w, (Instr.typeAssert x 20 92 true).run Tryz.prog w = .ok (.tuple #[.nilIface, .bool false]) w := h
    clear h
    go_enter Tryz.func40, Tryz.ntmps40
    go_wp2_with fail
    go_ret
    exact ⟨rfl, rfl⟩
  · have hx : ∀ w, (Instr.typeAssert x 20 92 true).run Tryz.prog w = .ok (.tuple #[x, .bool true]) w := h
    clear h
    go_enter Tryz.func40, Tryz.ntmps40
    go_wp2_with fail
    go_ret
    exact ⟨rfl, rfl⟩
theorem isa4 (x : Value) (b : Bool) (h : Faced x 94 b) (w : World) : Calls Tryz.prog 41 #[x, .int .u8 4] w fun e w' => e = .returned (.int .u32 (if b then 16 else 0)) ∧ w = w' := by
  cases b
  · have hx : ∀ w, (Instr.typeAssert x 20 94 true).run Tryz.prog w = .ok (.tuple #[.nilIface, .bool false]) w := h
    clear h
    go_enter Tryz.func41, Tryz.ntmps41
    go_wp2_with fail
    go_ret
    exact ⟨rfl, rfl⟩
  · have hx : ∀ w, (Instr.typeAssert x 20 94 true).run Tryz.prog w = .ok (.tuple #[x, .bool true]) w := h
    clear h
    go_enter Tryz.func41, Tryz.ntmps41
    go_wp2_with fail
    go_ret
    exact ⟨rfl, rfl⟩
theorem isa5 (x : Value) (b : Bool) (h : Faced x 96 b) (w : World) : Calls Tryz.prog 42 #[x, .int .u8 5] w fun e w' => e = .returned (.int .u32 (if b then 32 else 0)) ∧ w = w' := by
  cases b
  · have hx : ∀ w, (Instr.typeAssert x 20 96 true).run Tryz.prog w = .ok (.tuple #[.nilIface, .bool false]) w := h
    clear h
    go_enter Tryz.func42, Tryz.ntmps42
    go_wp2_with fail
    go_ret
    exact ⟨rfl, rfl⟩
  · have hx : ∀ w, (Instr.typeAssert x 20 96 true).run Tryz.prog w = .ok (.tuple #[x, .bool true]) w := h
    clear h
    go_enter Tryz.func42, Tryz.ntmps42
    go_wp2_with fail
    go_ret
    exact ⟨rfl, rfl⟩
theorem isa6 (x : Value) (b : Bool) (h : Faced x 98 b) (w : World) : Calls Tryz.prog 43 #[x, .int .u8 6] w fun e w' => e = .returned (.int .u32 (if b then 64 else 0)) ∧ w = w' := by
  cases b
  · have hx : ∀ w, (Instr.typeAssert x 20 98 true).run Tryz.prog w = .ok (.tuple #[.nilIface, .bool false]) w := h
    clear h
    go_enter Tryz.func43, Tryz.ntmps43
    go_wp2_with fail
    go_ret
    exact ⟨rfl, rfl⟩
  · have hx : ∀ w, (Instr.typeAssert x 20 98 true).run Tryz.prog w = .ok (.tuple #[x, .bool true]) w := h
    clear h
    go_enter Tryz.func43, Tryz.ntmps43
    go_wp2_with fail
    go_ret
    exact ⟨rfl, rfl⟩
theorem isa7 (x : Value) (b : Bool) (h : Faced x 100 b) (w : World) : Calls Tryz.prog 44 #[x, .int .u8 7] w fun e w' => e = .returned (.int .u32 (if b then 128 else 0)) ∧ w = w' := by
  cases b
  · have hx : ∀ w, (Instr.typeAssert x 20 100 true).run Tryz.prog w = .ok (.tuple #[.nilIface, .bool false]) w := h
    clear h
    go_enter Tryz.func44, Tryz.ntmps44
    go_wp2_with fail
    go_ret
    exact ⟨rfl, rfl⟩
  · have hx : ∀ w, (Instr.typeAssert x 20 100 true).run Tryz.prog w = .ok (.tuple #[x, .bool true]) w := h
    clear h
    go_enter Tryz.func44, Tryz.ntmps44
    go_wp2_with fail
    go_ret
    exact ⟨rfl, rfl⟩
theorem isa8 (x : Value) (b : Bool) (h : Faced x 102 b) (w : World) : Calls Tryz.prog 45 #[x, .int .u8 8] w fun e w' => e = .returned (.int .u32 (if b then 256 else 0)) ∧ w = w' := by
  cases b
  · have hx : ∀ w, (Instr.typeAssert x 20 102 true).run Tryz.prog w = .ok (.tuple #[.nilIface, .bool false]) w := h
    clear h
    go_enter Tryz.func45, Tryz.ntmps45
    go_wp2_with fail
    go_ret
    exact ⟨rfl, rfl⟩
  · have hx : ∀ w, (Instr.typeAssert x 20 102 true).run Tryz.prog w = .ok (.tuple #[x, .bool true]) w := h
    clear h
    go_enter Tryz.func45, Tryz.ntmps45
    go_wp2_with fail
    go_ret
    exact ⟨rfl, rfl⟩
theorem isa9 (x : Value) (b : Bool) (h : Faced x 104 b) (w : World) : Calls Tryz.prog 46 #[x, .int .u8 9] w fun e w' => e = .returned (.int .u32 (if b then 512 else 0)) ∧ w = w' := by
  cases b
  · have hx : ∀ w, (Instr.typeAssert x 20 104 true).run Tryz.prog w = .ok (.tuple #[.nilIface, .bool false]) w := h
    clear h
    go_enter Tryz.func46, Tryz.ntmps46
    go_wp2_with fail
    go_ret
    exact ⟨rfl, rfl⟩
  · have hx : ∀ w, (Instr.typeAssert x 20 104 true).run Tryz.prog w = .ok (.tuple #[x, .bool true]) w := h
    clear h
    go_enter Tryz.func46, Tryz.ntmps46
    go_wp2_with fail
    go_ret
    exact ⟨rfl, rfl⟩
theorem isa10 (x : Value) (b : Bool) (h : Faced x 106 b) (w : World) : Calls Tryz.prog 47 #[x, .int .u8 10] w fun e w' => e = .returned (.int .u32 (if b then 1024 else 0)) ∧ w = w' := by
  cases b
  · have hx : ∀ w, (Instr.typeAssert x 20 106 true).run Tryz.prog w = .ok (.tuple #[.nilIface, .bool false]) w := h
    clear h
    go_enter Tryz.func47, Tryz.ntmps47
    go_wp2_with fail
    go_ret
    exact ⟨rfl, rfl⟩
  · have hx : ∀ w, (Instr.typeAssert x 20 106 true).run Tryz.prog w = .ok (.tuple #[x, .bool true]) w := h
    clear h
    go_enter Tryz.func47, Tryz.ntmps47
    go_wp2_with fail
    go_ret
    exact ⟨rfl, rfl⟩
theorem isa11 (x : Value) (b : Bool) (h : Faced x 108 b) (w : World) : Calls Tryz.prog 48 #[x, .int .u8 11] w fun e w' => e = .returned (.int .u32 (if b then 2048 else 0)) ∧ w = w' := by
  cases b
  · have hx : ∀ w, (Instr.typeAssert x 20 108 true).run Tryz.prog w = .ok (.tuple #[.nilIface, .bool false]) w := h
    clear h
    go_enter Tryz.func48, Tryz.ntmps48
    go_wp2_with fail
    go_ret
    exact ⟨rfl, rfl⟩
  · have hx : ∀ w, (Instr.typeAssert x 20 108 true).run Tryz.prog w = .ok (.tuple #[x, .bool true]) w := h
    clear h
    go_enter Tryz.func48, Tryz.ntmps48
    go_wp2_with fail
    go_ret
    exact ⟨rfl, rfl⟩
theorem isa12 (x : Value) (b : Bool) (h : Faced x 110 b) (w : World) : Calls Tryz.prog 49 #[x, .int .u8 12] w fun e w' => e = .returned (.int .u32 (if b then 4096 else 0)) ∧ w = w' := by
  cases b
  · have hx : ∀ w, (Instr.typeAssert x 20 110 true).run Tryz.prog w = .ok (.tuple #[.nilIface, .bool false]) w := h
    clear h
    go_enter Tryz.func49, Tryz.ntmps49
    go_wp2_with fail
    go_ret
    exact ⟨rfl, rfl⟩
  · have hx : ∀ w, (Instr.typeAssert x 20 110 true).run Tryz.prog w = .ok (.tuple #[x, .bool true]) w := h
    clear h
    go_enter Tryz.func49, Tryz.ntmps49
    go_wp2_with fail
    go_ret
    exact ⟨rfl, rfl⟩
theorem isa13 (x : Value) (b : Bool) (h : Faced x 112 b) (w : World) : Calls Tryz.prog 50 #[x, .int .u8 13] w fun e w' => e = .returned (.int .u32 (if b then 8192 else 0)) ∧ w = w' := by
  cases b
  · have hx : ∀ w, (Instr.typeAssert x 20 112 true).run Tryz.prog w = .ok (.tuple #[.nilIface, .bool false]) w := h
    clear h
    go_enter Tryz.func50, Tryz.ntmps50
    go_wp2_with fail
    go_ret
    exact ⟨rfl, rfl⟩
  · have hx : ∀ w, (Instr.typeAssert x 20 112 true).run Tryz.prog w = .ok (.tuple #[x, .bool true]) w := h
    clear h
    go_enter Tryz.func50, Tryz.ntmps50
    go_wp2_with fail
    go_ret
    exact ⟨rfl, rfl⟩
theorem isa14 (x : Value) (b : Bool) (h : Faced x 114 b) (w : World) : Calls Tryz.prog 51 #[x, .int .u8 14] w fun e w' => e = .returned (.int .u32 (if b then 16384 else 0)) ∧ w = w' := by
  cases b
  · have hx : ∀ w, (Instr.typeAssert x 20 114 true).run Tryz.prog w = .ok (.tuple #[.nilIface, .bool false]) w := h
    clear h
    go_enter Tryz.func51, Tryz.ntmps51
    go_wp2_with fail
    go_ret
    exact ⟨rfl, rfl⟩
  · have hx : ∀ w, (Instr.typeAssert x 20 114 true).run Tryz.prog w = .ok (.tuple #[x, .bool true]) w := h
    clear h
    go_enter Tryz.func51, Tryz.ntmps51
    go_wp2_with fail
    go_ret
    exact ⟨rfl, rfl⟩
theorem isa15 (x : Value) (b : Bool) (h : Faced x 116 b) (w : World) : Calls Tryz.prog 52 #[x, .int .u8 15] w fun e w' => e = .returned (.int .u32 (if b then 32768 else 0)) ∧ w = w' := by
  cases b
  · have hx : ∀ w, (Instr.typeAssert x 20 116 true).run Tryz.prog w = .ok (.tuple #[.nilIface, .bool false]) w := h
    clear h
    go_enter Tryz.func52, Tryz.ntmps52
    go_wp2_with fail
    go_ret
    exact ⟨rfl, rfl⟩
  · have hx : ∀ w, (Instr.typeAssert x 20 116 true).run Tryz.prog w = .ok (.tuple #[x, .bool true]) w := h
    clear h
    go_enter Tryz.func52, Tryz.ntmps52
    go_wp2_with fail
    go_ret
    exact ⟨rfl, rfl⟩
theorem isa16 (x : Value) (b : Bool) (h : Faced x 118 b) (w : World) : Calls Tryz.prog 53 #[x, .int .u8 16] w fun e w' => e = .returned (.int .u32 (if b then 65536 else 0)) ∧ w = w' := by
  cases b
  · have hx : ∀ w, (Instr.typeAssert x 20 118 true).run Tryz.prog w = .ok (.tuple #[.nilIface, .bool false]) w := h
    clear h
    go_enter Tryz.func53, Tryz.ntmps53
    go_wp2_with fail
    go_ret
    exact ⟨rfl, rfl⟩
  · have hx : ∀ w, (Instr.typeAssert x 20 118 true).run Tryz.prog w = .ok (.tuple #[x, .bool true]) w := h
    clear h
    go_enter Tryz.func53, Tryz.ntmps53
    go_wp2_with fail
    go_ret
    exact ⟨rfl, rfl⟩
theorem isa17 (x : Value) (b : Bool) (h : Faced x 120 b) (w : World) : Calls Tryz.prog 54 #[x, .int .u8 17] w fun e w' => e = .returned (.int .u32 (if b then 131072 else 0)) ∧ w = w' := by
  cases b
  · have hx : ∀ w, (Instr.typeAssert x 20 120 true).run Tryz.prog w = .ok (.tuple #[.nilIface, .bool false]) w := h
    clear h
    go_enter Tryz.func54, Tryz.ntmps54
    go_wp2_with fail
    go_ret
    exact ⟨rfl, rfl⟩
  · have hx : ∀ w, (Instr.typeAssert x 20 120 true).run Tryz.prog w = .ok (.tuple #[x, .bool true]) w := h
    clear h
    go_enter Tryz.func54, Tryz.ntmps54
    go_wp2_with fail
    go_ret
    exact ⟨rfl, rfl⟩
theorem isa18 (x : Value) (b : Bool) (h : Faced x 122 b) (w : World) : Calls Tryz.prog 55 #[x, .int .u8 18] w fun e w' => e = .returned (.int .u32 (if b then 262144 else 0)) ∧ w = w' := by
  cases b
  · have hx : ∀ w, (Instr.typeAssert x 20 122 true).run Tryz.prog w = .ok (.tuple #[.nilIface, .bool false]) w := h
    clear h
    go_enter Tryz.func55, Tryz.ntmps55
    go_wp2_with fail
    go_ret
    exact ⟨rfl, rfl⟩
  · have hx : ∀ w, (Instr.typeAssert x 20 122 true).run Tryz.prog w = .ok (.tuple #[x, .bool true]) w := h
    clear h
    go_enter Tryz.func55, Tryz.ntmps55
    go_wp2_with fail
    go_ret
    exact ⟨rfl, rfl⟩
theorem isa19 (x : Value) (b : Bool) (h : Faced x 20 b) (w : World) : Calls Tryz.prog 56 #[x, .int .u8 19] w fun e w' => e = .returned (.int .u32 (if b then 524288 else 0)) ∧ w = w' := by
  cases b
  · have hx : ∀ w, (Instr.typeAssert x 20 20 true).run Tryz.prog w = .ok (.tuple #[.nilIface, .bool false]) w := h
    clear h
    go_enter Tryz.func56, Tryz.ntmps56
    go_wp2_with fail
    go_ret
    exact ⟨rfl, rfl⟩
  · have hx : ∀ w, (Instr.typeAssert x 20 20 true).run Tryz.prog w = .ok (.tuple #[x, .bool true]) w := h
    clear h
    go_enter Tryz.func56, Tryz.ntmps56
    go_wp2_with fail
    go_ret
    exact ⟨rfl, rfl⟩

/-- The set of the faces told by these answers, as the program adds them up. -/
structure Faces19 (x : Value) (b : Nat → Bool) : Prop where
  h1 : Faced x 70 (b 1)
  h2 : Faced x 90 (b 2)
  h3 : Faced x 92 (b 3)
  h4 : Faced x 94 (b 4)
  h5 : Faced x 96 (b 5)
  h6 : Faced x 98 (b 6)
  h7 : Faced x 100 (b 7)
  h8 : Faced x 102 (b 8)
  h9 : Faced x 104 (b 9)
  h10 : Faced x 106 (b 10)
  h11 : Faced x 108 (b 11)
  h12 : Faced x 110 (b 12)
  h13 : Faced x 112 (b 13)
  h14 : Faced x 114 (b 14)
  h15 : Faced x 116 (b 15)
  h16 : Faced x 118 (b 16)
  h17 : Faced x 120 (b 17)
  h18 : Faced x 122 (b 18)
  h19 : Faced x 20 (b 19)
end Go.Proofs.YtacijlfckmllcaaGreatDoor
