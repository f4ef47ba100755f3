/-
  A child's exit is told: it is started again.
-/
import Derived.Test.YtnlgiodhfmcaaaaGreatDoorSag5
namespace Go.Proofs.YtnlgiodhfmcaaaaGreatDoor
open Go.RowKit

set_option maxHeartbeats 1000000 in
theorem at_bad (x : Nat) (h : Int) (w : World) (h1 : 0 < h) (hx : w.cell? ⟨x, 0, none⟩ = some (.slice none 0 0)) : Calls Tryz.prog 27 #[.pointer (some ⟨x, 0, none⟩), .int .i64 h] w (AtPost w 50) := by
  have e0 : (h == 0) = false := by simp; omega
  have e1 : ¬ h < 0 := by omega
  go_enter Tryz.func27, Tryz.ntmps27
  go_wp2_with fail
  refine bodyPost_ret (v := .tuple #[.pointer (some ⟨w.heap.size, 0, none⟩), .int .i64 50]) (by simp only [results, Tryz.results27]; go_simp) rfl ?_
  exact ⟨_, rfl, (Blk.new w _ _).cell 0, (Chg.refl _ _).alloc _⟩

section
variable {w : World} {B g cb cc ne nr : Nat} {up : Bool} {life now : Int} {rs evs : List Value} {told ended : Bool} {rsV outV : Value}

theorem Sup.set_g (h : Sup w B g cb cc up life rs evs ne now told ended rsV outV nr) (i : Nat) (u : Value) (now' : Int) (told' ended' : Bool) (he : (supC (.slice (some ⟨cb, 0, none⟩) 1 cc) rsV outV now told ended).setIfInBounds i u = supC (.slice (some ⟨cb, 0, none⟩) 1 cc) rsV outV now' told' ended') :
    Sup (w.setCell ⟨g, i, none⟩ u) B g cb cc up life rs evs ne now' told' ended' rsV outV nr := by
  obtain ⟨a1, a2, a3, a4, a5⟩ := h.apart
  have hset : Chg [g] w (w.setCell ⟨g, i, none⟩ u) := (Chg.refl [g] w).setCell (.inl (by simp)) _
  refine ⟨by rw [← he]; exact Blk.set_ h.b i u, ownsRow_chg h.ch hset (fun b hb hm => ?_), ownsRow_chg h.rs hset (fun b hb hm => (a2 b hb).2 (by simpa using hm)), ownsRow_chg h.ev hset (fun b hb hm => (a3 b hb).2 (by simpa using hm)), h.gB⟩
  obtain rfl : cb = b := by simpa [Value.ownBlock] using hb
  exact a1 (by simpa using hm)

theorem Sup.restart {w5 : World} {gn cg : Nat} {v : Value} (h : Sup w B g cb cc up life [] evs ne now told ended (.slice none 0 0) outV 0) (hc : Chg [] w w5) (ho : w5.ownsRow B 2 1 (.slice (some ⟨gn, 0, none⟩) 1 cg) 1 [v]) (hat : w.heap.size ≤ gn) :
    Sup (w5.setCell ⟨g, 6, none⟩ (.slice (some ⟨gn, 0, none⟩) 1 cg)) B g cb cc up life [v] evs ne now told ended (.slice (some ⟨gn, 0, none⟩) 1 cg) outV 1 := by
  have h5 := h.fresh hc
  obtain ⟨a1, a2, a3, a4, a5⟩ := h5.apart
  have hgl := h.b.lt
  have hset : Chg [g] w5 (w5.setCell ⟨g, 6, none⟩ (.slice (some ⟨gn, 0, none⟩) 1 cg)) := (Chg.refl [g] w5).setCell (.inl (by simp)) _
  refine ⟨Blk.set_ h5.b 6 _, ownsRow_chg h5.ch hset (fun b hb hm => ?_), ownsRow_chg ho hset (fun b hb hm => ?_), ownsRow_chg h5.ev hset (fun b hb hm => (a3 b hb).2 (by simpa using hm)), h.gB⟩
  · obtain rfl : cb = b := by simpa [Value.ownBlock] using hb
    exact a1 (by simpa using hm)
  · obtain rfl : gn = b := by simpa [Value.ownBlock] using hb
    have : gn = g := by simpa using hm
    omega

set_option maxRecDepth 100000 in
/-- Of a handle that names none. -/
theorem exit_bad (x : Nat) (h : Sup w B g cb cc up life rs evs ne now told false rsV outV nr) (hx : w.cell? ⟨x, 0, none⟩ = some (.slice none 0 0)) :
    Calls Tryz.prog 6 #[.pointer (some ⟨g, 0, none⟩), .pointer (some ⟨x, 0, none⟩), .int .i64 0, .int .i64 9, .int .i64 0] w fun e w' => e = .returned (.tuple #[.slice none 0 0, .int .i64 50]) ∧ Chg [] w w' := by
  have g9 : w.cell? ⟨g, 9, none⟩ = some (.bool false) := h.b.cell 9
  have H := Lib.hid h; have HX := Lib.hid hx
  clear h hx
  go_enter Tryz.func6, Tryz.ntmps6
  go_wp2_with fail
  refine (there_yes H.out).mono ?_
  rintro e w' ⟨rfl, rfl⟩
  go_wp2_with fail
  refine (error_of (at_bad x 9 _ (by omega) HX.out)).mono ?_
  rintro e w2 ⟨rfl, hd⟩
  have HD := Lib.hid hd
  clear hd
  go_wp2_with fail
  go_ret2
  exact ⟨rfl, HD.out⟩
end
end Go.Proofs.YtnlgiodhfmcaaaaGreatDoor
