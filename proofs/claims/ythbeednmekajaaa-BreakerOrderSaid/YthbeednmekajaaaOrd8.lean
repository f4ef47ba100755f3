import Derived.Test.YthbeednmekajaaaOrd6
namespace Go.Proofs.Ythbeednmekajaaa
open Go.RowKit

theorem raceR_inv {t : T} {cs : Nat → Cl} {len : Nat} {xs : Nat → Int} {n : Nat} (hg : Good cs len) : ∃ m, Inv cs len m (raceR t cs len xs n).2 :=
  ⟨_, ((initR_inv hg).sched (t := t) (s := (v0, initR cs len)) xs n).fin (t := t) len⟩

theorem act_cases {t : T} {cs : Nat → Cl} {len : Nat} {xs : Nat → Int} {n : Nat} (hg : Good cs len) {i : Nat} {v v' : V} (h : Act1 t (raceR t cs len xs n).2 i v v') :
    ∃ r, (raceR t cs len xs n).2[i]? = some r ∧ i < len ∧ (((cs i).done = false ∧ allowR t v (cs i).now = (v', r.rp, r.rc)) ∨
      ((cs i).done = true ∧ ∃ (j : Nat) (o : R), (cs i).of_ = (j : Int) ∧ j < len ∧ (raceR t cs len xs n).2[j]? = some o ∧ ((o.rc ≠ 0 ∧ r.rc = 250 ∧ v' = v) ∨ (o.rc = 0 ∧ doneR t v o.rp (cs i).ok (cs i).now = (v', r.rc))))) := by
  obtain ⟨m, hI⟩ := raceR_inv (t := t) (xs := xs) (n := n) hg
  obtain ⟨r, h1, h2, h3⟩ := h
  have hi : i < len := by have := (List.getElem?_eq_some_iff.1 h1).1; rw [hI.len] at this; exact this
  obtain ⟨e1, e2, e3, e4⟩ := hI.is_ i r h1
  have hgi := hg i hi
  have ht : tickB (cs i).now = true := by unfold goodAt at hgi; simp at hgi; exact hgi.1
  refine ⟨r, h1, hi, ?_⟩
  rcases h3 with ⟨h3, h4⟩ | ⟨h3, o, h4, h5, h6⟩
  · refine .inl ⟨by rw [← e1]; exact h3, ?_⟩
    unfold allowR
    rw [if_pos ht, ← e4]
    exact h4
  · have hd : (cs i).done = true := by rw [← e1]; exact h3
    obtain ⟨g1, g2⟩ := goodAt_done hgi hd
    refine .inr ⟨hd, (cs i).of_.toNat, o, by omega, by omega, by rw [← e2]; exact h4, ?_⟩
    rcases h6 with h6 | ⟨h6, h7⟩
    · exact .inl h6
    · refine .inr ⟨h6, ?_⟩
      unfold doneR
      rw [if_pos ht, ← e3, ← e4]
      exact h7

theorem own_off {v : Value} {bb : Nat} (h : bb ∉ v.ownBlock.toList) : ∀ k, v.ownBlock = some k → k ∉ [bb] := fun k hk hm => by
  obtain rfl : k = bb := by simpa using hm
  exact h (by simp [hk])

theorem order_cell {w : World} {base : Nat} {e : TypeId} {v : Value} {l : List Nat} {k : Nat} (h : w.ownsRow base e 1 v k (nrow l)) (hk : l.length = k) {n i : Nat} (hi : l[n]? = some i) :
    ∃ g cap, v = .slice (some ⟨g, 0, none⟩) k cap ∧ g < w.heap.size ∧ w.cell? ⟨g, n, none⟩ = some (.int .i64 i) := by
  have hn : n < k := by have := (List.getElem?_eq_some_iff.1 hi).1; omega
  obtain ⟨g, cap, rfl, _, hg⟩ := h.form (by omega)
  refine ⟨g, cap, rfl, hg, ?_⟩
  rw [h.cellAt n (by omega)]
  simp [nrow, hi]
end Go.Proofs.Ythbeednmekajaaa
