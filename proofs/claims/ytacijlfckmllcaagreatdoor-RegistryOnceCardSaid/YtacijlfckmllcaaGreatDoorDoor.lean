/-
  The one listed variable, the order in which the roll's kinds are entered: what it reads as, a world in which it does, its cells.
-/
import Derived.Test.YtacijlfckmllcaaGreatDoorRows
import Derived.Test.YtacijlfckmllcaaGreatDoorLaw
import Derived.LaidLaws
import Derived.LaidHandle
import Derived.MakeChecks
import Derived.Stop.Joined
import Derived.ChangeVars
import Derived.JoinedOf
namespace Go.Proofs.YtacijlfckmllcaaGreatDoor
open Go.ChangeShapes Go.WideShapes Go.ChangeAt Go.RowKit Go.Deep

abbrev laidL : List (String × DataW Unit) := [("errata/registry.entered", Rows.laid_errata_registry_entered)]
def enteredK : List Int := [2, 1, 3, 11, 19, 9, 10, 14, 16, 21, 22, 24, 26, 9, 4, 5, 6, 7, 8, 12, 13, 15, 17, 18, 20, 23, 25, 2, 1, 15, 25]
def enteredC : Array Value := (enteredK.map fun k => (.int .u8 k : Value)).toArray

noncomputable def laidWorld (os : Os) : World :=
  { World.holding Tryz.prog os ⟨#[], #[], []⟩ with heap := (World.holding Tryz.prog os ⟨#[], #[], []⟩).heap.modify 0 fun
      | .cells _ t frozen => .cells enteredC t frozen
      | o => o }

theorem laidWorld_met (os : Os) (args : Array Value) : laidMetH Tryz.prog laidL ((laidWorld os).forCall (fun _ _ => 0) ⟨#[], args, []⟩).memory := by
  rw [Go.MakeChecks.laidMetH_plain _ _ _ (by kernel_rfl)]
  exact laidMet_of_run' 8 (by kernel_rfl) (by kernel_rfl)

theorem laid_of {W : World} (h : laidMetH Tryz.prog laidL W) : laidMet Tryz.prog laidL W := by rwa [Go.MakeChecks.laidMetH_plain _ _ _ (by kernel_rfl)] at h
theorem own : ownKnob Tryz.prog.godebug = none := by kernel_rfl
theorem laidOut : laidOutB Tryz.prog = true := by kernel_rfl
end Go.Proofs.YtacijlfckmllcaaGreatDoor
