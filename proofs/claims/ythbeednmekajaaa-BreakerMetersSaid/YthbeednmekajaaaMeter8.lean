import Derived.Test.YthbeednmekajaaaMeter7
namespace Go.Proofs.Ythbeednmekajaaa
open Go.RowKit

/-- What the script's cells hold. -/
def CountAt (w : World) (b off i : Nat) (x : Bool × Bool × Int) : Prop :=
  w.cell? ⟨b, off + i * 3, none⟩ = some (.bool x.1) ∧ w.cell? ⟨b, off + i * 3 + 1, none⟩ = some (.bool x.2.1) ∧ w.cell? ⟨b, off + i * 3 + 2, none⟩ = some (.int .i64 x.2.2)

/-- THE LOOP's RELATION. -/
def MRel (w : World) (bm br rm n : Nat) (span : Int) (j : Nat) (wr : World) : Prop :=
  ∃ rv ks bs vA vB, PM wr bm br n span (lastOf ks) rv ∧ RM wr w.heap.size rm n span ks bs vA vB ∧ RI (ks.zip bs) n (lastOf ks) rv ∧ Below w.heap.size w wr ∧ ks.length ≤ j ∧ (∀ x ∈ ks, 0 ≤ x ∧ x ≤ 2147483647) ∧ w.heap.size ≤ br ∧ w.heap.size ≤ bm

theorem rv_bd {l : List (Int × Bool)} {n : Nat} {last : Int} {rv : Nat → Nat → Int} (h : RI l n last rv) (B : Int) (hl : (l.length : Int) ≤ B) : ∀ i, i < n → 0 ≤ rv i 1 ∧ rv i 1 ≤ B ∧ 0 ≤ rv i 2 ∧ rv i 2 ≤ B := by
  intro i hi
  have h1 := cnt_bd (inSlot n i (rv i 0) (fun _ => true)) l
  have h2 := cnt_bd (inSlot n i (rv i 0) id) l
  rw [← h.all i hi] at h1
  rw [← h.bad i hi] at h2
  omega

theorem zip_snoc {ks : List Int} {bs : List Bool} (h : bs.length = ks.length) (x : Int) (b : Bool) : (ks ++ [x]).zip (bs ++ [b]) = ks.zip bs ++ [(x, b)] := by
  rw [List.zip_append h.symm]; rfl

/-- A call that is counted on both sides keeps the relation. -/
theorem MRel.added {w wr w1 w2 : World} {bm br rm n : Nat} {span : Int} {j : Nat} {rv : Nat → Nat → Int} {ks : List Int} {bs : List Bool} {vA vB : Value} {now : Int} {ok : Bool}
    (hR : RM wr w.heap.size rm n span ks bs vA vB) (hI : RI (ks.zip bs) n (lastOf ks) rv) (hB : Below w.heap.size w wr) (hj : ks.length ≤ j) (hk : ∀ x ∈ ks, 0 ≤ x ∧ x ≤ 2147483647) (hbr : w.heap.size ≤ br) (hbm : w.heap.size ≤ bm)
    (h3 : 1 ≤ span)
    (hc1 : Chg [bm, br] wr w1) (hP1 : PM w1 bm br n span (nextP now span (lastOf ks) n rv ok).1 (nextP now span (lastOf ks) n rv ok).2)
    (hR1 : RM w1 w.heap.size rm n span ks bs vA vB)
    (hA : RAdded w1 w.heap.size rm n span (nextR now span (lastOf ks) n ks bs ok).1 (nextR now span (lastOf ks) n ks bs ok).2 vA vB w2) : MRel w bm br rm n span (j + 1) w2 := by
  obtain ⟨vA', vB', hR2, hc2⟩ := hA
  have hlB : w.heap.size ≤ wr.heap.size := hB.size
  have hB1 : Below w.heap.size w w1 := hB.trans (hc1.below hlB (by intro i hi; simp at hi; omega))
  have hB2 : Below w.heap.size w w2 := hB1.trans (hc2.below hB1.size (by
    intro i hi
    simp only [rS, List.mem_cons, List.mem_append, Option.mem_toList] at hi
    rcases hi with rfl | hi | hi
    · exact hR.hb
    · exact (hR.a.lt i hi).1
    · exact (hR.b.lt i hi).1))
  have hP2 : PM w2 bm br n span (nextP now span (lastOf ks) n rv ok).1 (nextP now span (lastOf ks) n rv ok).2 := by
    refine hP1.chg hc2 ?_ ?_
    · simp only [rS, List.mem_cons, List.mem_append, Option.mem_toList, not_or]
      exact ⟨fun e => by subst e; exact Blk.ne_ hP1.m hR1.m (by decide) rfl, own_blk_ne hR1.a hP1.m (by decide), own_blk_ne hR1.b hP1.m (by decide)⟩
    · obtain ⟨cs, hcs⟩ := hP1.b
      simp only [rS, List.mem_cons, List.mem_append, Option.mem_toList, not_or]
      exact ⟨fun e => by subst e; exact Blk.ne_ hcs hR1.m (by decide) rfl, own_blk_ne hR1.a hcs (by decide), own_blk_ne hR1.b hcs (by decide)⟩
  cases hg : good now span (lastOf ks) n
  · simp only [nextP, nextR, hg] at hP2 hR2
    exact ⟨rv, ks, bs, vA', vB', hP2, hR2, hI, hB2, by omega, hk, hbr, hbm⟩
  · simp only [nextP, nextR, hg, if_true] at hP2 hR2
    simp only [good, Bool.and_eq_true, decide_eq_true_eq, tickB] at hg
    obtain ⟨⟨t0, t1⟩, hg⟩ := hg
    have q0 : 0 ≤ now / span := Int.ediv_nonneg t0 (by omega)
    have q1 : now / span ≤ 2147483647 := Int.le_trans (Int.ediv_le_self _ t0) t1
    have hk' : (((now / span).toNat : Nat) : Int) = now / span := by omega
    have hI' := hI.add (now / span).toNat ok (by rw [hk']; exact hg)
    rw [hk'] at hI'
    refine ⟨addR rv n (now / span).toNat ok, ks ++ [now / span], bs ++ [!ok], vA', vB', ?_, hR2, ?_, hB2, by simp; omega, ?_, hbr, hbm⟩
    · rw [lastOf_snoc]; exact hP2
    · rw [zip_snoc hR.hl, lastOf_snoc]; exact hI'
    · intro x hx
      simp only [List.mem_append, List.mem_singleton] at hx
      rcases hx with hx | rfl
      · exact hk x hx
      · exact ⟨q0, q1⟩

theorem MRel.later {w wr w' : World} {bm br rm n : Nat} {span : Int} {j : Nat} (h : MRel w bm br rm n span j wr) (hc : Chg [] wr w') : MRel w bm br rm n span (j + 1) w' := by
  obtain ⟨rv, ks, bs, vA, vB, hP, hR, hI, hB, hj, hk, h1, h2⟩ := h
  exact ⟨rv, ks, bs, vA, vB, hP.chg0 hc, hR.chg hc (by simp), hI, hB.trans (hc.below hB.size (by simp)), by omega, hk, h1, h2⟩

theorem MRel.draws {w wr w' : World} {bm br rm n : Nat} {span : Int} {j : Nat} (h : MRel w bm br rm n span j wr) (hc : Chg [] wr w') : MRel w bm br rm n span j w' := by
  obtain ⟨rv, ks, bs, vA, vB, hP, hR, hI, hB, hj, hk, h1, h2⟩ := h
  exact ⟨rv, ks, bs, vA, vB, hP.chg0 hc, hR.chg hc (by simp), hI, hB.trans (hc.below hB.size (by simp)), by omega, hk, h1, h2⟩
end Go.Proofs.Ythbeednmekajaaa
