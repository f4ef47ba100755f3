/-
  A supervisor stops its child, ends, tells its events, counts its restarts.
-/
import Derived.Test.YtnlgiodhfmcaaaaGreatDoorSag2
namespace Go.Proofs.YtnlgiodhfmcaaaaGreatDoor
open Go.RowKit

set_option maxRecDepth 100000 in
theorem there_yes {w : World} {B g cb cc : Nat} {up : Bool} {life : Int} {rs evs : List Value} {ne : Nat} {now : Int} {told ended : Bool} {rsV outV : Value} {nr : Nat} (h : Sup w B g cb cc up life rs evs ne now told ended rsV outV nr) :
    Calls Tryz.prog 15 #[.pointer (some ⟨g, 0, none⟩), .int .i64 0] w fun e w' => e = .returned (.bool true) ∧ w' = w := by
  have g5 : w.cell? ⟨g, 5, none⟩ = some (.slice (some ⟨cb, 0, none⟩) 1 cc) := h.b.cell 5
  clear h
  go_enter Tryz.func15, Tryz.ntmps15
  go_wp2_with fail
  go_ret
  exact ⟨rfl, rfl⟩
set_option maxRecDepth 100000 in
theorem there_no {w : World} {B g cb cc : Nat} {up : Bool} {life : Int} {rs evs : List Value} {ne : Nat} {now : Int} {told ended : Bool} {rsV outV : Value} {nr : Nat} (h : Sup w B g cb cc up life rs evs ne now told ended rsV outV nr) :
    Calls Tryz.prog 15 #[.pointer (some ⟨g, 0, none⟩), .int .i64 1] w fun e w' => e = .returned (.bool false) ∧ w' = w := by
  have g5 : w.cell? ⟨g, 5, none⟩ = some (.slice (some ⟨cb, 0, none⟩) 1 cc) := h.b.cell 5
  clear h
  go_enter Tryz.func15, Tryz.ntmps15
  go_wp2_with fail
  go_ret
  exact ⟨rfl, rfl⟩

set_option maxRecDepth 100000 in
set_option maxHeartbeats 1000000 in
/-- The child is down: nothing is stopped. -/
theorem stop_down {w : World} {B g cb cc : Nat} {life : Int} {rs evs : List Value} {ne : Nat} {now : Int} {told ended : Bool} {rsV outV : Value} {nr : Nat} (h : Sup w B g cb cc false life rs evs ne now told ended rsV outV nr) :
    Calls Tryz.prog 34 #[.pointer (some ⟨g, 0, none⟩), .int .i64 0] w fun e w' => e = .returned (.slice none 0 0) ∧ w' = w := by
  have g5 : w.cell? ⟨g, 5, none⟩ = some (.slice (some ⟨cb, 0, none⟩) 1 cc) := h.b.cell 5
  have k1 : w.cell? ⟨cb, 1, none⟩ = some (.bool false) := h.ch.cellAt 1 (by omega)
  clear h
  go_enter Tryz.func34, Tryz.ntmps34
  go_wp2_with fail
  go_loopg [5, 6] 1 (fun gk l i wr => ∃ k : Nat, l = .slice none 0 0 ∧ k = gk ∧ k ≤ 1 ∧ i = .int .i64 ((k : Int) - 1) ∧ wr = w)
  case atStart => exact ⟨1, rfl, rfl, by omega, rfl, rfl⟩
  case round =>
    obtain ⟨k, rfl, hk, hk1, rfl, rfl⟩ := hrel
    have HK := Lib.hid hk
    clear hk
    by_cases hlt : k = 1
    · subst hlt
      go_wp2_with fail
      go_roundg (gk - 1)
      case rel => exact ⟨0, rfl, by have := HK.out; omega, by omega, by go_num, rfl⟩
      case measure => have := HK.out; omega
    · obtain rfl : k = 0 := by omega
      go_wp2_with fail
      go_ret
      exact ⟨rfl, rfl⟩

set_option maxRecDepth 100000 in
theorem counts_all {w : World} {B g cb cc : Nat} {up : Bool} {life : Int} {rs evs : List Value} {ne : Nat} {now : Int} {told ended : Bool} {A : Option Addr} {cap : Nat} {outV : Value} {nr : Nat} (h : Sup w B g cb cc up life rs evs ne now told ended (.slice A nr cap) outV nr) :
    Calls Tryz.prog 20 #[.pointer (some ⟨g, 0, none⟩), .int .i64 (-9223372036854775808)] w fun e w' => e = .returned (.int .i64 (nr : Int)) ∧ w' = w := by
  have g3 : w.cell? ⟨g, 3, none⟩ = some (.int .i64 4611686018427387904) := h.b.cell 3
  have g6 : w.cell? ⟨g, 6, none⟩ = some (.slice A nr cap) := h.b.cell 6
  have hwr : wrap64 (-13835058055282163712) = 4611686018427387904 := by kernel_rfl
  clear h
  go_enter Tryz.func20, Tryz.ntmps20
  go_wp2_with fail
  go_ret
  exact ⟨rfl, rfl⟩

set_option maxRecDepth 100000 in
theorem restarts_all {w : World} {B g cb cc : Nat} {up : Bool} {life : Int} {rs evs : List Value} {ne : Nat} {ended : Bool} {A : Option Addr} {cap : Nat} {outV : Value} {nr : Nat} (h : Sup w B g cb cc up life rs evs ne (-9223372036854775808) true ended (.slice A nr cap) outV nr) :
    Calls Tryz.prog 11 #[.pointer (some ⟨g, 0, none⟩), .int .i64 (-9223372036854775808)] w fun e w' => e = .returned (.int .i64 (nr : Int)) ∧ w' = w := by
  have g7 : w.cell? ⟨g, 7, none⟩ = some (.int .i64 (-9223372036854775808)) := h.b.cell 7
  have g8 : w.cell? ⟨g, 8, none⟩ = some (.bool true) := h.b.cell 8
  have H := Lib.hid h
  clear h
  go_enter Tryz.func11, Tryz.ntmps11
  go_wp2_with fail
  refine (counts_all H.out).mono ?_
  rintro e w' ⟨rfl, rfl⟩
  go_wp2_with fail
  go_ret
  exact ⟨rfl, rfl⟩

set_option maxRecDepth 100000 in
theorem ended_yes {w : World} {B g cb cc : Nat} {up : Bool} {life : Int} {rs evs : List Value} {ne : Nat} {now : Int} {told ended : Bool} {rsV outV : Value} {nr : Nat} (h : Sup w B g cb cc up life rs evs ne now told ended rsV outV nr) :
    Calls Tryz.prog 10 #[.pointer (some ⟨g, 0, none⟩)] w fun e w' => e = .returned (.bool ended) ∧ w' = w := by
  have g9 : w.cell? ⟨g, 9, none⟩ = some (.bool ended) := h.b.cell 9
  clear h
  go_enter Tryz.func10, Tryz.ntmps10
  go_wp2_with fail
  go_ret
  exact ⟨rfl, rfl⟩

section
variable {w : World} {B g cb cc ne nr : Nat} {up : Bool} {life now : Int} {rs evs : List Value} {told ended : Bool} {rsV outV : Value}
/-- The events told: none is left. -/
theorem Sup.telling (h : Sup w B g cb cc up life rs evs ne now told ended rsV outV nr) : Sup (w.setCell ⟨g, 10, none⟩ (.slice none 0 0)) B g cb cc up life rs [] 0 now told ended rsV (.slice none 0 0) nr := by
  obtain ⟨a1, a2, a3, a4, a5⟩ := h.apart
  have hset : Chg [g] w (w.setCell ⟨g, 10, none⟩ (.slice none 0 0)) := (Chg.refl [g] w).setCell (.inl (by simp)) _
  refine ⟨Blk.set_ h.b 10 _, ownsRow_chg h.ch hset (fun b hb hm => ?_), ownsRow_chg h.rs hset (fun b hb hm => (a2 b hb).2 (by simpa using hm)), World.ownsRow_nil _ _ _ _, h.gB⟩
  obtain rfl : cb = b := by simpa [Value.ownBlock] using hb
  exact a1 (by simpa using hm)
end

def TellPost (w : World) (B g cb cc : Nat) (up : Bool) (life : Int) (rs : List Value) (ne : Nat) (now : Int) (told ended : Bool) (rsV : Value) (nr : Nat) (code : Int) (e : Ending) (w' : World) : Prop :=
  (∃ A c, e = .returned (.slice A ne c)) ∧ Sup w' B g cb cc up life rs [] 0 now told ended rsV (.slice none 0 0) nr ∧ Below B w w' ∧ code = 0

set_option maxRecDepth 100000 in
theorem events_any {w : World} {B g cb cc : Nat} {up : Bool} {life : Int} {rs evs : List Value} {ne : Nat} {now : Int} {told ended : Bool} {rsV outV : Value} {nr : Nat} (h : Sup w B g cb cc up life rs evs ne now told ended rsV outV nr) :
    Calls Tryz.prog 19 #[.pointer (some ⟨g, 0, none⟩)] w (TellPost w B g cb cc up life rs ne now told ended rsV nr 0) := by
  obtain ⟨A, cap, hA⟩ := own_slice h.ev
  subst hA
  have g10 : w.cell? ⟨g, 10, none⟩ = some (.slice A ne cap) := h.b.cell 10
  have f10 := h.b.frozen 10
  have hb : Below B w (w.setCell ⟨g, 10, none⟩ (.slice none 0 0)) := ((Chg.refl [g] w).setCell (.inl (by simp)) _).below (Nat.le_trans h.gB (Nat.le_of_lt h.b.lt)) (fun i hi => by
    obtain rfl : i = g := by simpa using hi
    exact h.gB)
  have H := Lib.hid h.telling; have HB := Lib.hid hb
  clear h hb
  go_enter Tryz.func19, Tryz.ntmps19
  go_wp2_with fail
  go_ret
  exact ⟨⟨A, cap, rfl⟩, H.out, HB.out, rfl⟩
end Go.Proofs.YtnlgiodhfmcaaaaGreatDoor
