import Derived.Test.YtnlgiodhfmcaaaaGreatDoorProg
import Derived.Test.YtnlgiodhfmcaaaaGreatDoorBase
import Derived.WalkKit
import Derived.WalkLawsBesides
import Derived.WalkSpells
import Derived.LoopTactic
import Derived.BigQuiet
import Derived.Deep.QuietTactic
import Derived.Deep.LoopGhost
import Derived.Laws.MakeOwn
namespace Go.Proofs.YtnlgiodhfmcaaaaGreatDoor
open Go.RowKit

/-- An empty book at block x. -/
def Empty (w : World) (x : Nat) : Prop := ∃ cs, Blk w x 47 cs ∧ cs[0]? = some (.slice none 0 0)

/-- What 'at' tells where no row is. -/
def AtPost (w : World) (code : Int) (e : Ending) (w' : World) : Prop :=
  ∃ g, e = .returned (.tuple #[.pointer (some ⟨g, 0, none⟩), .int .i64 code]) ∧ w'.cell? ⟨g, 0, none⟩ = some .nilIface ∧ Chg [] w w'

set_option maxHeartbeats 1000000 in
theorem at_nil (h : Int) (w : World) : Calls Tryz.prog 27 #[.pointer none, .int .i64 h] w (AtPost w 2) := by
  go_enter Tryz.func27, Tryz.ntmps27
  go_wp2_with fail
  refine bodyPost_ret (v := .tuple #[.pointer (some ⟨w.heap.size, 0, none⟩), .int .i64 2]) (by simp only [results, Tryz.results27]; go_simp) rfl ?_
  exact ⟨_, rfl, (Blk.new w _ _).cell 0, (Chg.refl _ _).alloc _⟩

set_option maxHeartbeats 1000000 in
theorem at_zero (x : Nat) (w : World) : Calls Tryz.prog 27 #[.pointer (some ⟨x, 0, none⟩), .int .i64 0] w (AtPost w 0) := by
  go_enter Tryz.func27, Tryz.ntmps27
  go_wp2_with fail
  refine bodyPost_ret (v := .tuple #[.pointer (some ⟨w.heap.size, 0, none⟩), .int .i64 0]) (by simp only [results, Tryz.results27]; go_simp) rfl ?_
  exact ⟨_, rfl, (Blk.new w _ _).cell 0, (Chg.refl _ _).alloc _⟩

set_option maxHeartbeats 1000000 in
theorem at_one (x : Nat) (w : World) (hx : w.cell? ⟨x, 0, none⟩ = some (.slice none 0 0)) : Calls Tryz.prog 27 #[.pointer (some ⟨x, 0, none⟩), .int .i64 1] w (AtPost w 50) := by
  go_enter Tryz.func27, Tryz.ntmps27
  go_wp2_with fail
  refine bodyPost_ret (v := .tuple #[.pointer (some ⟨w.heap.size, 0, none⟩), .int .i64 50]) (by simp only [results, Tryz.results27]; go_simp) rfl ?_
  exact ⟨_, rfl, (Blk.new w _ _).cell 0, (Chg.refl _ _).alloc _⟩

theorem error_of {b : Option Addr} {h code : Int} {w : World} (ha : Calls Tryz.prog 27 #[.pointer b, .int .i64 h] w (AtPost w code)) :
    Calls Tryz.prog 16 #[.pointer b, .int .i64 h] w fun e w' => e = .returned (.tuple #[.nilIface, .int .i64 code]) ∧ Chg [] w w' := by
  have HA := Lib.hid ha; clear ha
  go_enter Tryz.func16, Tryz.ntmps16
  go_wp2_with fail
  refine HA.out.mono ?_
  rintro e w' ⟨g, rfl, hc, hch⟩
  have HC := Lib.hid hch; clear hch
  go_wp2_with fail
  refine bodyPost_ret (v := .tuple #[.nilIface, .int .i64 code]) (by simp only [results, Tryz.results16]; go_simp) rfl ?_
  exact ⟨rfl, HC.out⟩

theorem value_of {b : Option Addr} {h code : Int} {w : World} (ha : Calls Tryz.prog 27 #[.pointer b, .int .i64 h] w (AtPost w code)) :
    Calls Tryz.prog 114 #[.pointer b, .int .i64 h] w fun e w' => e = .returned (.tuple #[.nilIface, .int .i64 code]) ∧ Chg [] w w' := by
  have HA := Lib.hid (error_of ha); clear ha
  by_cases hz : code = 0
  · subst hz
    go_enter Tryz.func114, Tryz.ntmps114
    go_wp2_with fail
    refine HA.out.mono ?_
    rintro e w' ⟨rfl, hch⟩
    have HC := Lib.hid hch; clear hch
    go_wp2_with fail
    refine bodyPost_ret (v := .tuple #[.nilIface, .int .i64 0]) (by simp only [results, Tryz.results114]; go_simp) rfl ?_
    exact ⟨rfl, HC.out⟩
  · have hz' : (code != 0) = true := by simp [hz]
    clear hz
    go_enter Tryz.func114, Tryz.ntmps114
    go_wp2_with fail
    refine HA.out.mono ?_
    rintro e w' ⟨rfl, hch⟩
    have HC := Lib.hid hch; clear hch
    go_wp2_with fail
    refine bodyPost_ret (v := .tuple #[.nilIface, .int .i64 code]) (by simp only [results, Tryz.results114]; go_simp) rfl ?_
    exact ⟨rfl, HC.out⟩
end Go.Proofs.YtnlgiodhfmcaaaaGreatDoor
