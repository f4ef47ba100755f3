import Derived.Test.YthbeednmekajaaaOrd5
import Derived.Test.YthbeednmekajaaaProbe2
namespace Go.Proofs.Ythbeednmekajaaa
open Go.RowKit

/-- The law's own calls, out of any. -/
def mild (cs : Nat → Cl) (k : Nat) : Cl :=
  let of := (cs k).of_ % (if k = 0 then 1 else (k : Int))
  ⟨if (if k = 0 then false else (cs k).done) && (if _h : of.toNat < k then (mild cs of.toNat).done else false) then false else (if k = 0 then false else (cs k).done), of, (cs k).ok, (cs k).now % 200⟩
termination_by k

def mdone (cs : Nat → Cl) (k : Nat) : Bool := if k = 0 then false else (cs k).done
def mof (cs : Nat → Cl) (k : Nat) : Int := (cs k).of_ % (if k = 0 then 1 else (k : Int))

theorem mof_bd (cs : Nat → Cl) (k : Nat) : 0 ≤ mof cs k ∧ (0 < k → mof cs k < k) ∧ (k = 0 → mof cs k = 0) := by
  unfold mof
  by_cases hk : k = 0
  · subst hk; simp
  · rw [if_neg hk]
    exact ⟨Int.emod_nonneg _ (by omega), fun _ => Int.emod_lt_of_pos _ (by omega), fun h => absurd h hk⟩

theorem mild_of (cs : Nat → Cl) (k : Nat) : (mild cs k).of_ = mof cs k := by rw [mild]; rfl
theorem mild_ok (cs : Nat → Cl) (k : Nat) : (mild cs k).ok = (cs k).ok := by rw [mild]
theorem mild_now (cs : Nat → Cl) (k : Nat) : (mild cs k).now = (cs k).now % 200 := by rw [mild]
theorem mild_done (cs : Nat → Cl) (k : Nat) : (mild cs k).done = if mdone cs k && (if (mof cs k).toNat < k then (mild cs (mof cs k).toNat).done else false) then false else mdone cs k := by
  rw [mild]
  unfold mof mdone
  split <;> rfl

theorem mild_good (cs : Nat → Cl) (n : Nat) : Good (mild cs) n := by
  intro i hi
  unfold goodAt
  rw [mild_now, mild_of]
  obtain ⟨h0, h1, h2⟩ := mof_bd cs i
  have ht : tickB ((cs i).now % 200) = true := by
    simp only [tickB, decide_eq_true_eq]
    omega
  rw [ht]
  simp only [Bool.true_and]
  cases hd : (mild cs i).done
  · rfl
  · rw [mild_done] at hd
    simp only [Bool.not_true, Bool.false_or]
    by_cases hz : i = 0
    · subst hz
      unfold mdone at hd
      simp at hd
    · have hlt := h1 (by omega)
      have ht2 : (mof cs i).toNat < i := by omega
      rw [if_pos ht2] at hd
      have : (mild cs (mof cs i).toNat).done = false := by
        cases he : (mild cs (mof cs i).toNat).done
        · rfl
        · rw [he] at hd
          simp at hd
      simp [h0, hlt, this]

/-- The ways in which a call of the law's own is made. -/
theorem mild_cases (cs : Nat → Cl) (k : Nat) : (k = 0 ∧ mild cs k = ⟨false, 0, (cs k).ok, (cs k).now % 200⟩) ∨
    (0 < k ∧ ∃ j : Nat, j < k ∧ (cs k).of_ % (k : Int) = j ∧ ((cs k).done = false ∧ mild cs k = ⟨false, j, (cs k).ok, (cs k).now % 200⟩ ∨
      (cs k).done = true ∧ (mild cs j).done = true ∧ mild cs k = ⟨false, j, (cs k).ok, (cs k).now % 200⟩ ∨
      (cs k).done = true ∧ (mild cs j).done = false ∧ mild cs k = ⟨true, j, (cs k).ok, (cs k).now % 200⟩)) := by
  obtain ⟨h0, h1, h2⟩ := mof_bd cs k
  have e : ∀ (d : Bool) (j : Int), (mild cs k).done = d → mof cs k = j → mild cs k = ⟨d, j, (cs k).ok, (cs k).now % 200⟩ := by
    intro d j hd hj
    have a1 := mild_of cs k
    have a2 := mild_ok cs k
    have a3 := mild_now cs k
    generalize mild cs k = c at *
    obtain ⟨c1, c2, c3, c4⟩ := c
    simp only at *
    subst hd
    rw [a1, a2, a3, hj]
  by_cases hk : k = 0
  · refine .inl ⟨hk, e _ _ ?_ (h2 hk)⟩
    rw [mild_done]
    unfold mdone
    rw [if_pos hk]
    simp
  · have hp : 0 < k := by omega
    obtain ⟨j, hj⟩ := Int.eq_ofNat_of_zero_le h0
    have hjk : j < k := by have := h1 hp; omega
    have hof : (cs k).of_ % (k : Int) = j := by
      unfold mof at hj
      rw [if_neg hk] at hj
      exact hj
    have hmd : mdone cs k = (cs k).done := by unfold mdone; rw [if_neg hk]
    have hdd : (mild cs k).done = if (cs k).done && (mild cs j).done then false else (cs k).done := by
      rw [mild_done, hmd, hj, Int.toNat_natCast, if_pos hjk]
    refine .inr ⟨hp, j, hjk, hof, ?_⟩
    cases hd : (cs k).done
    · exact .inl ⟨rfl, e _ _ (by rw [hdd, hd]; rfl) hj⟩
    · cases hm : (mild cs j).done
      · exact .inr (.inr ⟨rfl, rfl, e _ _ (by rw [hdd, hd, hm]; rfl) hj⟩)
      · exact .inr (.inl ⟨rfl, rfl, e _ _ (by rw [hdd, hd, hm]; rfl) hj⟩)
end Go.Proofs.Ythbeednmekajaaa
