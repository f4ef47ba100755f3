/-
  A slice that came in, element by element, whatever its elements are.
-/
import Derived.Test.YtacijlfckmllcaaGreatDoorLaw
namespace Go.Proofs.YtacijlfckmllcaaGreatDoor
open Go.ChangeShapes Go.WideShapes Go.ChangeAt Go.RowKit Go.Deep

section
variable {H : Type} {enc : TypeId × Value → H} {P : Program}

theorem open_elems {w : World} {sp : Nat → Bool} {hd : Bool} {t e : TypeId} {v : Value} {d : DataW H} {ps : List MemPlace} (ht : P.underlying t = some (.slice e))
    {C : Nat} (hC : P.cellsOf e = C) (hpos : 0 < C) {r : Reach} {b0 : Nat} (hv : Value.okWide P w r b0 t v) (h : DataW.Trod enc P w 0 sp hd t v d ps) :
    ∃ (A : Option Addr) (len cap : Nat), v = .slice A len cap ∧ len ≤ cap ∧ cap ≤ maxLen ∧
      (0 < len → ∃ b off, A = some ⟨b, off, none⟩ ∧ b < w.heap.size ∧
        ∀ i, i < len → ∃ (cs : List Value) (y : DataW H × List MemPlace) (n : Nat), cs.length = C ∧ (∀ j, j < C → w.cell? ⟨b, off + (i * C + j), none⟩ = cs[j]?) ∧ DataW.trod enc P w 0 sp hd n e cs = some y) ∧
      ∃ (es : List (DataW H)) (rest : List (DataW H)), (d = .nil ∧ len = 0 ∨ d = .slice es rest ∧ es.length = len) := by
  obtain ⟨a0, len, cap, rfl⟩ := okWide_slice ht hv
  obtain ⟨fuel, hf⟩ := h
  rcases open_slice ht hf with ⟨hcs, hx⟩ | ⟨a, len', cap', m, n, D, Pl, hcs, hb, hl, hm, hmm, hx, hi⟩
  · have hcs' : [Value.slice a0 len cap] = [Value.slice none 0 0] := hcs
    injection hcs' with e1
    injection e1 with e1 e2 e3
    subst e1 e2 e3
    injection hx with hx1 hx2
    exact ⟨none, 0, 0, rfl, Nat.le_refl _, Nat.zero_le _, fun h => absurd h (by omega), [], [], .inl ⟨hx1, rfl⟩⟩
  · have hcs' : [Value.slice a0 len cap] = [Value.slice (some a) len' cap'] := hcs
    injection hcs' with e1
    injection e1 with e1 e2 e3
    subst e1 e2 e3
    injection hx with hx1 hx2
    refine ⟨some a, len, cap, rfl, hl, hm, fun hpos' => ?_, _, _, .inr ⟨hx1, by simp⟩⟩
    have key : ∀ i, i < len → ∃ (cs : List Value) (y : DataW H × List MemPlace) (n : Nat), cs.length = C ∧ (∀ j, j < C → w.cell? (a.add (i * C + j)) = cs[j]?) ∧ DataW.trod enc P w 0 sp hd n e cs = some y := by
      intro i hil
      have him : i < m := by rw [hmm]; split <;> omega
      obtain ⟨cs', hc, ht'⟩ := hi i him
      rw [hC] at hc
      obtain ⟨hln, hcl, hat⟩ := World.cells?_some hc
      refine ⟨cs', _, _, ?_, fun j hj => ?_, ht'⟩
      · first | exact hcl | exact hln
      · rw [← Go.Deep.add_add]
        exact hat j hj
    obtain ⟨cs0, _, _, hl0, hc0, _⟩ := key 0 hpos'
    have hc0 := hc0 0 hpos
    simp only [Nat.zero_mul, Nat.add_zero] at hc0
    have hcs0 : cs0[0]? = some (cs0[0]'(by omega)) := List.getElem?_eq_getElem _
    rw [hcs0] at hc0
    have hsp : a.spot = none := by
      obtain ⟨_, _, _, _, h⟩ := World.shape?_of_cell? hc0
      simpa [Addr.add] using h
    obtain ⟨b, off, spot⟩ := a
    simp only at hsp
    subst hsp
    have hb : b < w.heap.size := by have := World.block_lt_of_cell? _ _ hc0; simpa [Addr.add] using this
    refine ⟨b, off, rfl, hb, fun i hil => ?_⟩
    obtain ⟨cs, y, n, h1, h2, h3⟩ := key i hil
    refine ⟨cs, y, n, h1, fun j hj => ?_, h3⟩
    rw [← h2 j hj]
    unfold Addr.add
    split
    · rename_i e; simp [e]
    · rfl
end
end Go.Proofs.YtacijlfckmllcaaGreatDoor
