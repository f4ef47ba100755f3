import Derived.Test.YthbeednmekajaaaProbe2
import Derived.Test.YthbeednmekajaaaPlay4
namespace Go.Proofs.Ythbeednmekajaaa
open Go.RowKit

theorem allow_cases (t : T) (v : V) (now : Int) (h : VOk v) (hn : tickB now = true) :
    (allowR t v now = (v, v.turn + 1, 0) ∧ v.st = 0) ∨ (∃ v', allowR t v now = (v', v'.turn + 1, 0) ∧ v'.st = 2 ∧ (v'.turn != v.turn) = true ∧ VOk v') ∨ (allowR t v now = (v, 0, 250)) := by
  have hok := allowV_ok (t := t) h now
  simp only [allowR, hn, if_true]
  unfold allowV at hok ⊢
  by_cases h0 : v.st = 0
  · simp only [if_pos h0]; exact .inl ⟨trivial, h0⟩
  · by_cases h1 : v.st = 1 ∧ v.at_ + t.W ≤ now ∧ v.turn < 1048575
    · simp only [if_neg h0, if_pos h1] at hok ⊢
      refine .inr (.inl ⟨⟨2, v.turn + 1, 0, 0⟩, ?_, rfl, ?_, hok⟩)
      · simp only [Prod.mk.injEq, true_and, and_true]; omega
      · have : ¬ v.turn + 1 = v.turn := by omega
        simp [this]
    · simp only [if_neg h0, if_neg h1]
      exact .inr (.inr trivial)

theorem turnedV_turn (v : V) (st at_ : Int) : v.turn ≤ (turnedV v st at_).turn ∧ (turnedV v st at_).turn ≤ v.turn + 1 := by
  unfold turnedV
  split <;> simp <;> omega

theorem done_cases (t : T) (v : V) (pass : Int) (ok : Bool) (now : Int) (hn : tickB now = true) :
    (¬ pass = v.turn + 1 → doneR t v pass ok now = (v, 251)) ∧ (v.turn ≤ (doneR t v pass ok now).1.turn ∧ (doneR t v pass ok now).1.turn ≤ v.turn + 1) ∧ ((doneR t v pass ok now).1.st = 1 → ¬ v.st = 1 → ok = false) := by
  simp only [doneR, hn, if_true]
  refine ⟨fun h => by unfold doneV; rw [if_pos (.inl h)], ?_, ?_⟩
  · unfold doneV
    have a := turnedV_turn v 0 (now / t.S)
    have b := turnedV_turn v 1 now
    repeat' split
    all_goals (first | exact a | exact b | (simp; try omega))
  · intro h1 h2
    cases ok
    · rfl
    · exfalso
      unfold doneV at h1
      split at h1
      · exact h2 h1
      · split at h1
        · simp only [if_true] at h1
          unfold turnedV at h1
          split at h1
          · cases h1
          · exact h2 h1
        · simp at h1
          exact h2 h1

structure PB (w : World) (bb : Nat) (t : T) (ps : List Int) (v : V) (P : Value) (wr : World) : Prop where
  p : wr.ownsRow w.heap.size 3 1 P ps.length (ps.map (.int .i64))
  b : Brk wr bb t v
  lb : w.heap.size ≤ bb
  below : Below w.heap.size w wr

variable {w wr w' : World} {bb : Nat} {t : T} {ps ps' : List Int} {v v' : V} {P P' : Value}

theorem PB.same (h : PB w bb t ps v P wr) (hc : Chg [] wr w') : PB w bb t ps v P w' :=
  ⟨ownsRow_chg h.p hc (by simp), h.b.chg hc (by simp), h.lb, h.below.trans (hc.below h.below.size (by simp))⟩
theorem PB.turn (h : PB w bb t ps v P wr) (hc : Chg [bb] wr w') (hb : Brk w' bb t v') : PB w bb t ps v' P w' :=
  ⟨ownsRow_chg h.p hc (by intro i hi hm; obtain rfl : i = bb := (by simpa using hm); exact own_blk_ne h.p h.b.b (by decide) hi), hb, h.lb, h.below.trans (hc.below h.below.size (by intro i hi; obtain rfl : i = bb := (by simpa using hi); exact h.lb))⟩
theorem PB.grown (h : PB w bb t ps v P wr) (hg : wr.grownBy w' P.ownBlock) (ho : w'.ownsRow w.heap.size 3 1 P' ps'.length (ps'.map (.int .i64))) : PB w bb t ps' v P' w' :=
  ⟨ho, ⟨h.b.b.grown hg (fun e => own_blk_ne h.p h.b.b (by decide) e.symm), h.b.t, h.b.v⟩, h.lb, h.below.trans (((Chg.refl P.ownBlock.toList wr).grown hg (fun k hk => .inl (by simp [hk]))).below h.below.size (fun i hi => (h.p.lt i (by simpa using hi)).1))⟩
theorem PB.passes (h : PB w bb t ps v P wr) : ∃ A cap, P = .slice A ps.length cap ∧ PassesAt wr A ps.length := by
  obtain ⟨A, cap, rfl⟩ := own_slice h.p
  refine ⟨A, cap, rfl, fun j hj => ?_⟩
  obtain ⟨g, cap', e, _, hg, hcell⟩ := own_at h.p (by omega)
  injection e with e1 e2 e3
  refine ⟨g, ps[j], e1, hg, ?_⟩
  rw [hcell j hj]
  simp [hj]
end Go.Proofs.Ythbeednmekajaaa
