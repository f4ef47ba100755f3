/-
  A region that draws its order, walked in the order of its text: moves first (z of them), then operations that only read (up to n), each of which number n waits for, then the rest, one ready at a time but for moves and their kin.
-/
import Derived.StillTail
import Derived.StillTactics
import Derived.Deep.RegionHeld3
namespace Go.Proofs.YtacijlfckmllcaaGreatDoor

section
variable {P : Program} {ops : Array Oper} {md : Region.Mode}

/-- A run that hangs on no world and turns none. -/
def Steady (P : Program) {α : Type} (s : Sem α) : Prop := ∀ v w w1, s.run P w = .ok v w1 → w1 = w ∧ ∀ w', s.run P w' = .ok v w'

theorem Steady.pure {α : Type} (x : α) : Steady P (Pure.pure x : Sem α) := fun v w w1 h => by
  simp only [Sem.run_pure, Result.ok.injEq] at h
  obtain ⟨rfl, rfl⟩ := h
  exact ⟨rfl, fun _ => by simp⟩

/-- Kinds of operations that only hand on what lies in slots. -/
def handsOnK (o : Oper) : Bool := match o.op with
  | .move _ | .assign _ | .extract _ _ => true
  | _ => false

theorem handsOn_steady {o : Oper} (h : handsOnK o = true) (ρ : Operand → Value) : Steady P (execOp ρ o) := by
  obtain ⟨dst, op, type, pos, after, guard⟩ := o
  cases op <;> simp only [handsOnK] at h <;> try cases h
  · exact Steady.pure _
  · exact Steady.pure _
  · intro v w w1 hr
    simp only [execOp, Instr.extract, Sem.run_bind] at hr ⊢
    split at hr
    · split at hr
      · simp_all [Result.andThen]
      · simp_all [Result.andThen, stuck]
    · simp_all [Result.andThen, stuck]

def depsOf (md : Region.Mode) (ops : Array Oper) (k : Nat) : List Nat := match ops[k]? with
  | some o => (o.after.toList.filter fun e => Region.binds md e).map (·.on)
  | none => []

theorem mem_depsOf {k : Nat} {o : Oper} (ho : ops[k]? = some o) {e : Edge} (he : e ∈ o.after) (hb : Region.binds md e = true) : e.on ∈ depsOf md ops k := by
  unfold depsOf
  rw [ho]
  exact List.mem_map.2 ⟨e, List.mem_filter.2 ⟨by simpa using he, by simpa using hb⟩, rfl⟩
theorem depsOf_mem {k d : Nat} (h : d ∈ depsOf md ops k) : ∃ o, ops[k]? = some o ∧ ∃ e ∈ o.after, Region.binds md e = true ∧ e.on = d := by
  unfold depsOf at h
  split at h
  · rename_i o ho
    obtain ⟨e, he, rfl⟩ := List.mem_map.1 h
    obtain ⟨h1, h2⟩ := List.mem_filter.1 he
    exact ⟨o, ho, e, by simpa using h1, by simpa using h2, rfl⟩
  · cases h

/-- What number n waits for, through others too. -/
def needGo (md : Region.Mode) (ops : Array Oper) : Nat → List Nat → List Nat
  | 0, acc => acc
  | k + 1, acc => needGo md ops k (if acc.contains k then depsOf md ops k ++ acc else acc)

theorem needGo_listed {n : Nat} {listed : Array Bool} (hn : n ∈ Region.ready md ops listed) (inv : HeadInv md ops n listed) :
    ∀ (k : Nat) (acc : List Nat), (∀ i ∈ acc, i = n ∨ listed.getD i false = true) → ∀ i ∈ needGo md ops k acc, i = n ∨ listed.getD i false = true
  | 0, _, h => h
  | k + 1, acc, h => by
    refine needGo_listed hn inv k _ fun i hi => ?_
    split at hi
    · rename_i hk
      rcases List.mem_append.1 hi with hi | hi
      · right
        obtain ⟨o, ho, e, he, hb, rfl⟩ := depsOf_mem hi
        rcases h k (by simpa using hk) with rfl | hl
        · obtain ⟨_, o', ho', hall⟩ := mem_ready.1 hn
          obtain rfl : o = o' := Option.some.inj (ho.symm.trans ho')
          exact hall e he hb
        · exact inv.closed k o ho hl e he hb
      · exact h i hi
    · exact h i hi

def sinkN (md : Region.Mode) (ops : Array Oper) (z n : Nat) : Bool :=
  let need := needGo md ops (n + 1) [n]
  (List.range n).all fun i => decide (i < z) || need.contains i
def behindN (md : Region.Mode) (ops : Array Oper) (n : Nat) : Bool :=
  (List.range ops.size).all fun t => decide (t ≤ n) || (depsOf md ops t).any fun d => decide (n ≤ d)

theorem tail_waitsN {z n : Nat} {listed : Array Bool} (hs : sinkN md ops z n = true) (hb : behindN md ops n = true) (inv : HeadInv md ops n listed)
    {i : Nat} (hz : z ≤ i) (hi : i < n) (hun : listed.getD i true = false) : ∀ t, n ≤ t → t ∉ Region.ready md ops listed := by
  intro t ht hr
  obtain ⟨_, ot, hot, hall⟩ := mem_ready.1 hr
  have htlt : t < ops.size := (Array.getElem?_eq_some_iff.1 hot).1
  by_cases htn : t = n
  · subst htn
    have h1 := List.all_eq_true.1 hs i (List.mem_range.2 hi)
    simp only [Bool.or_eq_true, decide_eq_true_eq] at h1
    have h2 : i ∈ needGo md ops (t + 1) [t] := by
      rcases h1 with h1 | h1
      · omega
      · simpa using h1
    rcases needGo_listed hr inv _ _ (fun j hj => .inl (by simpa using hj)) i h2 with h3 | h3
    · omega
    · rw [getD_both hun] at h3; cases h3
  · have h1 := List.all_eq_true.1 hb t (List.mem_range.2 htlt)
    simp only [Bool.or_eq_true, decide_eq_true_eq] at h1
    rcases h1 with h1 | h1
    · omega
    · obtain ⟨d, hd, hnd⟩ := List.any_eq_true.1 h1
      obtain ⟨o', ho', e, he, hbd, rfl⟩ := depsOf_mem hd
      obtain rfl : o' = ot := Option.some.inj (ho'.symm.trans hot)
      have h2 := hall e he hbd
      have hlt : e.on < ops.size := by
        rcases Nat.lt_or_ge e.on listed.size with h | h
        · rw [← inv.size]; exact h
        · simp [Array.getElem?_eq_none h] at h2
      rw [getD_both (inv.tail e.on (by simpa using hnd) hlt)] at h2
      cases h2

variable {w : World} {Q : Exit → Act → World → Prop}

/-- 'wpAnyL_first' of the library, under another reason for the tail's waiting. -/
theorem anyL_first {n z i : Nat} {oi : Oper} {v : Value} {L : Array Bool → Act → Prop} (hi : ops[i]? = some oi) (hsel : ∀ (j : Nat) (o : Oper) cs b, ops[j]? = some o → o.op ≠ .select cs b)
    (hs : sinkN md ops z n = true) (hb : behindN md ops n = true) (hz : z ≤ i) (hin : i < n) (hdone : ∀ listed a, L listed a → ∀ j ∈ Region.ready md ops listed, n ≤ j) :
    ∀ (f : Nat) (listed : Array Bool) (a : Act), HeadInv md ops n listed →
      (∀ j oj, ops[j]? = some oj → j ≠ i → listed.getD j true = false → (∀ e ∈ oj.after, Region.binds md e = true → e.on ≠ i) → oi.apart ops oj = true) →
      i ∈ Region.ready md ops listed → YieldsAt P ops w oi v a →
      wpAnyL P md ops w n L f (listed.setIfInBounds i true) (a.put oi.dst v) → wpAnyL P md ops w n L (f + 1) listed a := by
  intro f
  induction f with
  | zero =>
    intro listed a inv _ hr hy H
    have hun := (mem_ready.1 hr).1
    refine ⟨fun h => (by rw [h] at hr; cases hr), fun j hj => ?_⟩
    have hjn : j < n := Nat.lt_of_not_le fun h => tail_waitsN hs hb inv hz hin hun j h hj
    refine ⟨hjn, ?_⟩
    by_cases hji : j = i
    · subst hji; exact hy.stOp hi H
    · have := hdone _ _ H j (ready_mono hj hji)
      omega
  | succ f ih =>
    intro listed a inv hfree hr hy H
    have hun := (mem_ready.1 hr).1
    refine ⟨fun h => (by rw [h] at hr; cases hr), fun j hj => ?_⟩
    have hjn : j < n := Nat.lt_of_not_le fun h => tail_waitsN hs hb inv hz hin hun j h hj
    refine ⟨hjn, ?_⟩
    by_cases hji : j = i
    · subst hji; exact hy.stOp hi H
    · have h1 := (H.2 j (ready_mono hj hji)).2
      obtain ⟨hjun, oj, hoj, hall⟩ := mem_ready.1 hj
      have hnot : ∀ e ∈ oj.after, Region.binds md e = true → e.on ≠ i := fun e he hbd heq => by
        have h1 := hall e he hbd
        rw [heq, getD_both hun] at h1
        cases h1
      have h2 := stOp_put hoj (hfree j oj hoj hji hjun hnot) (fun cs b => hsel i oi cs b hi) (fun cs b => hsel j oj cs b hoj) hy h1
      have hfree' : ∀ k ok, ops[k]? = some ok → k ≠ i → (listed.setIfInBounds j true).getD k true = false →
          (∀ e ∈ ok.after, Region.binds md e = true → e.on ≠ i) → oi.apart ops ok = true := fun k ok hk hki hun' hno => by
        refine hfree k ok hk hki ?_ hno
        by_cases hjk : j = k
        · subst hjk; exact hjun
        · rw [getD_set_ne true hjk] at hun'; exact hun'
      refine stOp_mono (fun a' h3 => ih (listed.setIfInBounds j true) a' (inv.set hj hjn) hfree' (ready_mono hr (Ne.symm hji)) h3.1 ?_) h2
      rw [Array.setIfInBounds_comm _ _ hji]
      exact h3.2

theorem handsOn_asks {o : Oper} (h : handsOnK o = true) (a : Act) (w : World) : ¬ o.asks P a w := by
  rintro ⟨h1, _⟩
  obtain ⟨dst, op, type, pos, after, guard⟩ := o
  cases op <;> simp only [handsOnK] at h <;> (try cases h) <;> simp only [execOp] at h1
  all_goals first
    | (change noRoomEvent ∈ (#[] : Array Event) at h1; simp at h1; done)
    | skip
  unfold Instr.extract at h1
  split at h1
  · split at h1
    · change noRoomEvent ∈ (#[] : Array Event) at h1; simp at h1
    · change noRoomEvent ∈ (#[] : Array Event) at h1; simp at h1
  · change noRoomEvent ∈ (#[] : Array Event) at h1; simp at h1

/-- The tail: one ready at a time, but for what only hands on. -/
def tailN (md : Region.Mode) (ops : Array Oper) : Nat → Nat → Array Bool → Bool
  | 0, _, listed => (Region.ready md ops listed).isEmpty
  | g + 1, k, listed => (decide (Region.ready md ops listed = [k]) || ((match ops[k]? with | some o => handsOnK o | none => false) && (Region.ready md ops listed).contains k && Region.free md ops listed k)) &&
      tailN md ops g (k + 1) (listed.setIfInBounds k true)

theorem any_of_tail (hsel : Region.noSelect ops = true) {Q' : Exit → Act → World → Prop} : ∀ (l : List Oper) (k : Nat) (listed : Array Bool) (a : Act) (w : World), (∀ j, l[j]? = ops[k + j]?) →
    tailN md ops l.length k listed = true → wpList P ops (NoPanic Q') l a w → wpAny P md ops (NoPanic Q') l.length listed a w
  | [], _, _, _, _, _, hB, h => ⟨by simpa [tailN] using hB, h⟩
  | o :: l, k, listed, a, w, hl, hB, h => by
    have h0 : ops[k]? = some o := by simpa using (hl 0).symm
    have hl' : ∀ j, l[j]? = ops[k + 1 + j]? := fun j => by have := hl (j + 1); simpa [Nat.add_assoc, Nat.add_comm 1 j] using this
    simp only [List.length_cons, tailN, Bool.and_eq_true, Bool.or_eq_true, decide_eq_true_eq, h0] at hB
    obtain ⟨hB, hB'⟩ := hB
    rcases hB with hB | ⟨⟨hk, hr⟩, hf⟩
    · refine ⟨fun h1 => (by rw [hB] at h1; cases h1), fun i hi => ?_⟩
      rw [hB] at hi
      obtain rfl : i = k := by simpa using hi
      have hw : wpOp P ops (NoPanic Q') i (wpList P ops (NoPanic Q') l) a w := by unfold wpOp; simp only [h0]; exact h
      exact wpOp_mono (fun a' w' h' => any_of_tail hsel l (i + 1) _ a' w' hl' hB' h') hw
    · have hst := handsOn_steady (P := P) hk a.eval
      have hy : ∃ v, Yields P ops o v a ∧ wpList P ops (NoPanic Q') l (a.put o.dst v) w := by
        unfold wpList at h
        split at h
        · rename_i hw
          rcases h with h | h
          · unfold Oper.wp at h
            generalize hrun : (execOp a.eval o).run P w = r at h
            cases r with
            | ok nx w1 =>
              obtain ⟨rfl, hall⟩ := hst _ _ _ hrun
              cases nx with
              | value v => exact ⟨v, .inl ⟨hw, hall⟩, h⟩
              | _ =>
                exfalso
                revert hrun
                obtain ⟨dst, op, type, pos, after, guard⟩ := o
                cases op <;> simp only [handsOnK] at hk <;> (try cases hk) <;> simp only [execOp] <;> intro hrun
                all_goals first
                  | (simp at hrun; done)
                  | (simp only [Instr.extract, Sem.run_bind] at hrun; (repeat' split at hrun) <;> simp_all [Result.andThen, stuck])
            | halt x w1 =>
              exfalso
              cases x <;> simp only [Oper.upon] at h
              case panic u => exact h
          · exact (handsOn_asks hk a w h.1).elim
        · rename_i hw
          exact ⟨undef, .inr ⟨by simpa using hw, rfl⟩, h⟩
      obtain ⟨v, hy, hrest⟩ := hy
      exact wpAny_take h0 hsel hf (by simpa using hr) (fun _ _ _ h => h) hy (any_of_tail hsel l (k + 1) _ _ w hl' hB' hrest)

/-- From number k on, f operations of the head in the text's order, then the tail. -/
def lexN (md : Region.Mode) (ops : Array Oper) (g n : Nat) : Nat → Nat → Array Bool → Bool
  | 0, k, listed => decide (k = n) && (Region.ready md ops listed).all (fun j => decide (n ≤ j)) && tailN md ops g k listed
  | f + 1, k, listed => (Region.ready md ops listed).contains k && Region.free md ops listed k && lexN md ops g n f (k + 1) (listed.setIfInBounds k true)

theorem anyL_lex {z n g : Nat} {Lq : Act → Prop} (hsel : Region.noSelect ops = true) (hs : sinkN md ops z n = true) (hb : behindN md ops n = true) :
    ∀ (l : List Oper) (k : Nat) (listed : Array Bool) (a : Act), (∀ j, j < l.length → l[j]? = ops[k + j]?) → k + l.length = n → z ≤ k → HeadInv md ops n listed →
    lexN md ops g n l.length k listed = true → wpStill P ops w Lq l a →
    wpAnyL P md ops w n (fun listed' a' => ((∀ j ∈ Region.ready md ops listed', n ≤ j) ∧ tailN md ops g n listed' = true) ∧ Lq a') l.length listed a
  | [], k, listed, a, _, hk, _, _, hB, h => by
    have : k = n := by simpa using hk
    subst this
    simp only [lexN, List.length_nil, Bool.and_eq_true, List.all_eq_true, decide_eq_true_eq] at hB
    exact ⟨⟨hB.1.2, hB.2⟩, h⟩
  | o :: l, k, listed, a, hl, hk, hz, inv, hB, h => by
    have h0 : ops[k]? = some o := by simpa using (hl 0 (by simp)).symm
    simp only [List.length_cons, lexN, Bool.and_eq_true] at hB
    obtain ⟨⟨hr, hf⟩, hB'⟩ := hB
    have hkn : k < n := by simp only [List.length_cons] at hk; omega
    have hr' : k ∈ Region.ready md ops listed := by simpa using hr
    have hst : stOp P ops w k (wpStill P ops w Lq l) a := by unfold stOp; simp only [h0]; exact h
    obtain ⟨v, hy, hK⟩ := yieldsAt_of_stOp h0 hst
    exact anyL_first h0 (Region.noSelect_spec hsel) hs hb hz hkn (fun listed' a' hL => hL.1.1) l.length listed a inv (Region.free_spec h0 hf) hr' hy
      (anyL_lex hsel hs hb l (k + 1) _ _ (fun j hj => by have := hl (j + 1) (by simp; omega); simpa [Nat.add_assoc, Nat.add_comm 1 j] using this) (by simp only [List.length_cons] at hk; omega) (by omega) (inv.set hr' hkn) hB' hK)

theorem handsOn_yields {o : Oper} {v : Value} {a : Act} (hk : handsOnK o = true) (h : YieldsAt P ops w o v a) : Yields P ops o v a := by
  rcases h with ⟨hw, hv | ⟨hv, rfl⟩ | ⟨f, args, hv, _⟩⟩ | ⟨hw, rfl⟩
  · exact .inl ⟨hw, (handsOn_steady (P := P) hk a.eval _ _ _ hv).2⟩
  · exfalso
    obtain ⟨dst, op, type, pos, after, guard⟩ := o
    cases op <;> simp only [handsOnK] at hk <;> (try cases hk) <;> simp only [execOp] at hv
    all_goals first
      | (simp at hv; done)
      | (simp only [Instr.extract, Sem.run_bind] at hv; (repeat' split at hv) <;> simp_all [Result.andThen, stuck])
  · exfalso
    obtain ⟨dst, op, type, pos, after, guard⟩ := o
    cases op <;> simp only [handsOnK] at hk <;> (try cases hk) <;> simp only [execOp] at hv
    all_goals first
      | (simp at hv; done)
      | (simp only [Instr.extract, Sem.run_bind] at hv; (repeat' split at hv) <;> simp_all [Result.andThen, stuck])
  · exact .inr ⟨hw, rfl⟩

/-- The moves ahead of all. -/
def preN (md : Region.Mode) (ops : Array Oper) (g n h : Nat) : Nat → Nat → Array Bool → Bool
  | 0, k, listed => lexN md ops g n h k listed
  | f + 1, k, listed => (match ops[k]? with | some o => handsOnK o | none => false) && (Region.ready md ops listed).contains k && Region.free md ops listed k && preN md ops g n h f (k + 1) (listed.setIfInBounds k true)

theorem any_of_pre {z n g hh : Nat} {Q' : Exit → Act → World → Prop} {Lq : Act → Prop} (hsel : Region.noSelect ops = true) (hs : sinkN md ops z n = true) (hb : behindN md ops n = true)
    (hL : ∀ listed' a', tailN md ops g n listed' = true → Lq a' → wpAny P md ops (NoPanic Q') g listed' a' w) :
    ∀ (f : Nat) (l : List Oper) (k : Nat) (listed : Array Bool) (a : Act), k + f = z → l.length = f + hh → (∀ j, j < l.length → l[j]? = ops[k + j]?) → k + l.length = n → HeadInv md ops n listed →
    preN md ops g n hh f k listed = true → wpStill P ops w Lq l a → wpAny P md ops (NoPanic Q') (l.length + g) listed a w
  | 0, l, k, listed, a, hk, hlen, hl, hn, inv, hB, h => by
    simp only [preN] at hB
    have hlh : l.length = hh := by omega
    rw [← hlh] at hB
    exact wpAny_of_head (fun listed' a' hLL => hL listed' a' hLL.1.2 hLL.2) _ _ _ (anyL_lex hsel hs hb l k listed a hl hn (by omega) inv hB h)
  | f + 1, [], k, listed, a, hk, hlen, _, _, _, _, _ => by simp at hlen; omega
  | f + 1, o :: l, k, listed, a, hk, hlen, hl, hn, inv, hB, h => by
    have h0 : ops[k]? = some o := by simpa using (hl 0 (by simp)).symm
    simp only [preN, Bool.and_eq_true, h0] at hB
    obtain ⟨⟨⟨ho, hr⟩, hf⟩, hB'⟩ := hB
    have hkn : k < n := by simp only [List.length_cons] at hn; omega
    have hr' : k ∈ Region.ready md ops listed := by simpa using hr
    have hst : stOp P ops w k (wpStill P ops w Lq l) a := by unfold stOp; simp only [h0]; exact h
    obtain ⟨v, hy, hK⟩ := yieldsAt_of_stOp h0 hst
    have := any_of_pre hsel hs hb hL f l (k + 1) _ _ (by omega) (by simp only [List.length_cons] at hlen; omega) (fun j hj => by have := hl (j + 1) (by simp; omega); simpa [Nat.add_assoc, Nat.add_comm 1 j] using this) (by simp only [List.length_cons] at hn; omega) (inv.set hr' hkn) hB' hK
    have e : (o :: l).length + g = (l.length + g) + 1 := by simp only [List.length_cons]; omega
    rw [e]
    exact wpAny_take h0 hsel hf hr (fun _ _ _ h => h) (handsOn_yields ho hy) this

def serB (md : Region.Mode) (ops : Array Oper) (z n : Nat) : Bool :=
  Region.noSelect ops && decide (n ≤ ops.size) && decide (z ≤ n) && sinkN md ops z n && behindN md ops n && preN md ops (ops.size - n) n (n - z) z 0 (Array.replicate ops.size false)

/-- THE LAW. -/
theorem wp_region_ser {id : Nat} {Q : Exit → Act → World → Prop} {a : Act} {w : World} {l : List Oper} (z n : Nat) (hm : P.follows .mixedOrders = true) (hB : serB .any l.toArray z n = true)
    (h : wpStill P l.toArray w.drew (fun a' => wpList P l.toArray (NoPanic Q) (l.drop n) a' w.drew) (l.take n) a) : (Code.region id l.toArray true).wp P Q a w := by
  simp only [serB, Bool.and_eq_true, decide_eq_true_eq] at hB
  obtain ⟨⟨⟨⟨⟨hsel, hn⟩, hz⟩, hs⟩, hb⟩, hp⟩ := hB
  have hsz : l.toArray.size = l.length := by simp
  have hlen : (l.take n).length = n := by rw [List.length_take]; omega
  refine wp_region_noPanic (wp_region_any hm ?_)
  have inv : HeadInv .any l.toArray n (Array.replicate l.toArray.size false) :=
    ⟨by simp, (fun j oj _ hl => by rw [getD_replicate_false] at hl; exact absurd hl (by decide)), (fun t _ ht => by simp at ht ⊢; simp [ht])⟩
  have := any_of_pre (P := P) (ops := l.toArray) (md := .any) (w := w.drew) (g := l.toArray.size - n) (Q' := Q) (Lq := fun a' => wpList P l.toArray (NoPanic Q) (l.drop n) a' w.drew) hsel hs hb
    (fun listed' a' ht hq => by
      have hd : (l.drop n).length = l.toArray.size - n := by rw [List.length_drop, hsz]
      rw [← hd] at ht ⊢
      exact any_of_tail hsel (l.drop n) n listed' a' w.drew (fun j => by rw [List.getElem?_drop]; simp) ht hq)
    z (l.take n) 0 _ a (by omega) (by omega) (fun j hj => by rw [hlen] at hj; rw [List.getElem?_take, if_pos hj]; simp) (by omega) inv hp h
  have e : (l.take n).length + (l.toArray.size - n) = l.toArray.size := by omega
  rw [e] at this
  exact this
end
end Go.Proofs.YtacijlfckmllcaaGreatDoor
