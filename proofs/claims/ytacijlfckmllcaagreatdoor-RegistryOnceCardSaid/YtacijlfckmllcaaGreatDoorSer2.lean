/-
  A region that draws its order, walked in an order that the prover names: first some moves (pre), then operations that only read (hd), each waited for by number n, then the rest from n on.
-/
import Derived.Test.YtacijlfckmllcaaGreatDoorSer
namespace Go.Proofs.YtacijlfckmllcaaGreatDoor

section
variable {P : Program} {ops : Array Oper} {md : Region.Mode} {w : World} {Q : Exit → Act → World → Prop}

def sinkL (md : Region.Mode) (ops : Array Oper) (pre : List Nat) (n : Nat) : Bool :=
  let need := needGo md ops (n + 1) [n]
  (List.range n).all fun i => pre.contains i || need.contains i

theorem tail_waitsL {pre : List Nat} {n : Nat} {listed : Array Bool} (hs : sinkL md ops pre n = true) (hb : behindN md ops n = true) (inv : HeadInv md ops n listed)
    {i : Nat} (hz : i ∉ pre) (hi : i < n) (hun : listed.getD i true = false) : ∀ t, n ≤ t → t ∉ Region.ready md ops listed := by
  intro t ht hr
  obtain ⟨_, ot, hot, hall⟩ := mem_ready.1 hr
  have htlt : t < ops.size := (Array.getElem?_eq_some_iff.1 hot).1
  by_cases htn : t = n
  · subst htn
    have h1 := List.all_eq_true.1 hs i (List.mem_range.2 hi)
    simp only [Bool.or_eq_true] at h1
    have h2 : i ∈ needGo md ops (t + 1) [t] := by
      rcases h1 with h1 | h1
      · exact absurd (by simpa using h1) hz
      · simpa using h1
    rcases needGo_listed hr inv _ _ (fun j hj => .inl (by simpa using hj)) i h2 with h3 | h3
    · omega
    · rw [getD_both hun] at h3; cases h3
  · have h1 := List.all_eq_true.1 hb t (List.mem_range.2 htlt)
    simp only [Bool.or_eq_true, decide_eq_true_eq] at h1
    rcases h1 with h1 | h1
    · omega
    · obtain ⟨d, hd, hnd⟩ := List.any_eq_true.1 h1
      obtain ⟨o', ho', e, he, hbd, rfl⟩ := depsOf_mem hd
      obtain rfl : o' = ot := Option.some.inj (ho'.symm.trans hot)
      have h2 := hall e he hbd
      have hlt : e.on < ops.size := by
        rcases Nat.lt_or_ge e.on listed.size with h | h
        · rw [← inv.size]; exact h
        · simp [Array.getElem?_eq_none h] at h2
      rw [getD_both (inv.tail e.on (by simpa using hnd) hlt)] at h2
      cases h2

theorem anyL_firstL {pre : List Nat} {n i : Nat} {oi : Oper} {v : Value} {L : Array Bool → Act → Prop} (hi : ops[i]? = some oi) (hsel : ∀ (j : Nat) (o : Oper) cs b, ops[j]? = some o → o.op ≠ .select cs b)
    (hs : sinkL md ops pre n = true) (hb : behindN md ops n = true) (hz : i ∉ pre) (hin : i < n) (hdone : ∀ listed a, L listed a → ∀ j ∈ Region.ready md ops listed, n ≤ j) :
    ∀ (f : Nat) (listed : Array Bool) (a : Act), HeadInv md ops n listed →
      (∀ j oj, ops[j]? = some oj → j ≠ i → listed.getD j true = false → (∀ e ∈ oj.after, Region.binds md e = true → e.on ≠ i) → oi.apart ops oj = true) →
      i ∈ Region.ready md ops listed → YieldsAt P ops w oi v a →
      wpAnyL P md ops w n L f (listed.setIfInBounds i true) (a.put oi.dst v) → wpAnyL P md ops w n L (f + 1) listed a := by
  intro f
  induction f with
  | zero =>
    intro listed a inv _ hr hy H
    have hun := (mem_ready.1 hr).1
    refine ⟨fun h => (by rw [h] at hr; cases hr), fun j hj => ?_⟩
    have hjn : j < n := Nat.lt_of_not_le fun h => tail_waitsL hs hb inv hz hin hun j h hj
    refine ⟨hjn, ?_⟩
    by_cases hji : j = i
    · subst hji; exact hy.stOp hi H
    · have := hdone _ _ H j (ready_mono hj hji)
      omega
  | succ f ih =>
    intro listed a inv hfree hr hy H
    have hun := (mem_ready.1 hr).1
    refine ⟨fun h => (by rw [h] at hr; cases hr), fun j hj => ?_⟩
    have hjn : j < n := Nat.lt_of_not_le fun h => tail_waitsL hs hb inv hz hin hun j h hj
    refine ⟨hjn, ?_⟩
    by_cases hji : j = i
    · subst hji; exact hy.stOp hi H
    · have h1 := (H.2 j (ready_mono hj hji)).2
      obtain ⟨hjun, oj, hoj, hall⟩ := mem_ready.1 hj
      have hnot : ∀ e ∈ oj.after, Region.binds md e = true → e.on ≠ i := fun e he hbd heq => by
        have h1 := hall e he hbd
        rw [heq, getD_both hun] at h1
        cases h1
      have h2 := stOp_put hoj (hfree j oj hoj hji hjun hnot) (fun cs b => hsel i oi cs b hi) (fun cs b => hsel j oj cs b hoj) hy h1
      have hfree' : ∀ k ok, ops[k]? = some ok → k ≠ i → (listed.setIfInBounds j true).getD k true = false →
          (∀ e ∈ ok.after, Region.binds md e = true → e.on ≠ i) → oi.apart ops ok = true := fun k ok hk hki hun' hno => by
        refine hfree k ok hk hki ?_ hno
        by_cases hjk : j = k
        · subst hjk; exact hjun
        · rw [getD_set_ne true hjk] at hun'; exact hun'
      refine stOp_mono (fun a' h3 => ih (listed.setIfInBounds j true) a' (inv.set hj hjn) hfree' (ready_mono hr (Ne.symm hji)) h3.1 ?_) h2
      rw [Array.setIfInBounds_comm _ _ hji]
      exact h3.2

/-- The operations of these numbers. -/
def pickOps (l : List Oper) : List Nat → List Oper
  | [] => []
  | k :: ks => match l[k]? with
    | some o => o :: pickOps l ks
    | none => pickOps l ks

def lexL (md : Region.Mode) (ops : Array Oper) (pre : List Nat) (g n : Nat) : List Nat → Array Bool → Bool
  | [], listed => (Region.ready md ops listed).all (fun j => decide (n ≤ j)) && tailN md ops g n listed
  | k :: ks, listed => decide (k < n) && decide (k < ops.size) && !pre.contains k && (Region.ready md ops listed).contains k && Region.free md ops listed k && lexL md ops pre g n ks (listed.setIfInBounds k true)

theorem anyL_lexL {l : List Oper} {pre : List Nat} {n g : Nat} {Lq : Act → Prop} (hsel : Region.noSelect l.toArray = true) (hs : sinkL md l.toArray pre n = true) (hb : behindN md l.toArray n = true) :
    ∀ (ks : List Nat) (listed : Array Bool) (a : Act), HeadInv md l.toArray n listed →
    lexL md l.toArray pre g n ks listed = true → wpStill P l.toArray w Lq (pickOps l ks) a →
    wpAnyL P md l.toArray w n (fun listed' a' => ((∀ j ∈ Region.ready md l.toArray listed', n ≤ j) ∧ tailN md l.toArray g n listed' = true) ∧ Lq a') ks.length listed a
  | [], listed, a, _, hB, h => by
    simp only [lexL, Bool.and_eq_true, List.all_eq_true, decide_eq_true_eq] at hB
    exact ⟨hB, h⟩
  | k :: ks, listed, a, inv, hB, h => by
    simp only [lexL, Bool.and_eq_true, decide_eq_true_eq, Bool.not_eq_true'] at hB
    obtain ⟨⟨⟨⟨⟨hkn, hks⟩, hpre⟩, hr⟩, hf⟩, hB'⟩ := hB
    have hsz : k < l.length := by simpa using hks
    have h0' : l[k]? = some l[k] := List.getElem?_eq_getElem hsz
    have h0 : l.toArray[k]? = some l[k] := by simp [h0']
    simp only [pickOps, h0'] at h
    have hr' : k ∈ Region.ready md l.toArray listed := by simpa using hr
    have hst : stOp P l.toArray w k (wpStill P l.toArray w Lq (pickOps l ks)) a := by unfold stOp; simp only [h0]; exact h
    obtain ⟨v, hy, hK⟩ := yieldsAt_of_stOp h0 hst
    exact anyL_firstL h0 (Region.noSelect_spec hsel) hs hb (by simpa using hpre) hkn (fun listed' a' hL => hL.1.1) ks.length listed a inv (Region.free_spec h0 hf) hr' hy
      (anyL_lexL hsel hs hb ks _ _ (inv.set hr' hkn) hB' hK)

def preL (md : Region.Mode) (ops : Array Oper) (pre : List Nat) (g n : Nat) (hd : List Nat) : List Nat → Array Bool → Bool
  | [], listed => lexL md ops pre g n hd listed
  | k :: ks, listed => (match ops[k]? with | some o => handsOnK o | none => false) && decide (k < n) && (Region.ready md ops listed).contains k && Region.free md ops listed k && preL md ops pre g n hd ks (listed.setIfInBounds k true)

theorem pickOps_append (l : List Oper) : ∀ xs ys, pickOps l (xs ++ ys) = pickOps l xs ++ pickOps l ys
  | [], _ => rfl
  | x :: xs, ys => by
    simp only [List.cons_append, pickOps]
    cases l[x]? <;> simp [pickOps_append l xs ys]

theorem any_of_preL {l : List Oper} {pre hd : List Nat} {n g : Nat} {Q' : Exit → Act → World → Prop} {Lq : Act → Prop} (hsel : Region.noSelect l.toArray = true) (hs : sinkL md l.toArray pre n = true) (hb : behindN md l.toArray n = true)
    (hL : ∀ listed' a', tailN md l.toArray g n listed' = true → Lq a' → wpAny P md l.toArray (NoPanic Q') g listed' a' w) :
    ∀ (ks : List Nat) (listed : Array Bool) (a : Act), HeadInv md l.toArray n listed →
    preL md l.toArray pre g n hd ks listed = true → wpStill P l.toArray w Lq (pickOps l (ks ++ hd)) a → wpAny P md l.toArray (NoPanic Q') (ks.length + (hd.length + g)) listed a w
  | [], listed, a, inv, hB, h => by
    simp only [preL] at hB
    simp only [List.length_nil, Nat.zero_add]
    exact wpAny_of_head (fun listed' a' hLL => hL listed' a' hLL.1.2 hLL.2) _ _ _ (anyL_lexL hsel hs hb hd listed a inv hB h)
  | k :: ks, listed, a, inv, hB, h => by
    cases h0 : l.toArray[k]? with
    | none => simp only [preL, Bool.and_eq_true, h0] at hB; cases hB.1.1.1.1
    | some o =>
      have h0' : l[k]? = some o := by simpa using h0
      simp only [preL, Bool.and_eq_true, h0, decide_eq_true_eq] at hB
      obtain ⟨⟨⟨⟨ho, hkn⟩, hr⟩, hf⟩, hB'⟩ := hB
      simp only [List.cons_append, pickOps, h0'] at h
      have hr' : k ∈ Region.ready md l.toArray listed := by simpa using hr
      have hst : stOp P l.toArray w k (wpStill P l.toArray w Lq (pickOps l (ks ++ hd))) a := by unfold stOp; simp only [h0]; exact h
      obtain ⟨v, hy, hK⟩ := yieldsAt_of_stOp h0 hst
      have := any_of_preL hsel hs hb hL ks _ _ (inv.set hr' hkn) hB' hK
      have e : (k :: ks).length + (hd.length + g) = (ks.length + (hd.length + g)) + 1 := by simp only [List.length_cons]; omega
      rw [e]
      exact wpAny_take h0 hsel hf hr (fun _ _ _ h => h) (handsOn_yields ho hy) this

def pickB (md : Region.Mode) (ops : Array Oper) (pre hd : List Nat) (n : Nat) : Bool :=
  Region.noSelect ops && decide (pre.length + hd.length = n) && decide (n ≤ ops.size) && sinkL md ops pre n && behindN md ops n && preL md ops pre (ops.size - n) n hd pre (Array.replicate ops.size false)

/-- THE LAW. -/
theorem wp_region_pick {id : Nat} {Q : Exit → Act → World → Prop} {a : Act} {w : World} {l : List Oper} (pre hd : List Nat) (n : Nat) (hm : P.follows .mixedOrders = true) (hB : pickB .any l.toArray pre hd n = true)
    (h : wpStill P l.toArray w.drew (fun a' => wpList P l.toArray (NoPanic Q) (l.drop n) a' w.drew) (pickOps l (pre ++ hd)) a) : (Code.region id l.toArray true).wp P Q a w := by
  simp only [pickB, Bool.and_eq_true, decide_eq_true_eq] at hB
  obtain ⟨⟨⟨⟨⟨hsel, hlen⟩, hn⟩, hs⟩, hb⟩, hp⟩ := hB
  have hsz : l.toArray.size = l.length := by simp
  refine wp_region_noPanic (wp_region_any hm ?_)
  have inv : HeadInv .any l.toArray n (Array.replicate l.toArray.size false) :=
    ⟨by simp, (fun j oj _ hl => by rw [getD_replicate_false] at hl; exact absurd hl (by decide)), (fun t _ ht => by simp at ht ⊢; simp [ht])⟩
  have := any_of_preL (P := P) (l := l) (md := .any) (w := w.drew) (g := l.toArray.size - n) (Q' := Q) (Lq := fun a' => wpList P l.toArray (NoPanic Q) (l.drop n) a' w.drew) hsel hs hb
    (fun listed' a' ht hq => by
      have hd : (l.drop n).length = l.toArray.size - n := by rw [List.length_drop, hsz]
      rw [← hd] at ht ⊢
      exact any_of_tail hsel (l.drop n) n listed' a' w.drew (fun j => by rw [List.getElem?_drop]; simp) ht hq)
    pre _ a inv hp h
  have e : pre.length + (hd.length + (l.toArray.size - n)) = l.toArray.size := by omega
  rw [e] at this
  exact this
end
end Go.Proofs.YtacijlfckmllcaaGreatDoor
