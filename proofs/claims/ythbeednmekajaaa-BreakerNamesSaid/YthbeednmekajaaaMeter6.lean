import Derived.Test.YthbeednmekajaaaMeter5
namespace Go.Proofs.Ythbeednmekajaaa
open Go.RowKit

/-! The plain law: the ring tells what the list tells. -/

def cnt (q : Int × Bool → Bool) (l : List (Int × Bool)) : Int := (l.filter q).length

theorem cnt_snoc (q : Int × Bool → Bool) (l : List (Int × Bool)) (p : Int × Bool) : cnt q (l ++ [p]) = cnt q l + if q p then 1 else 0 := by
  unfold cnt
  rw [List.filter_append]
  cases h : q p <;> simp [h]
theorem cnt_bd (q : Int × Bool → Bool) (l : List (Int × Bool)) : 0 ≤ cnt q l ∧ cnt q l ≤ l.length := by
  unfold cnt; have := List.length_filter_le q l; omega
theorem cnt_zero (q : Int × Bool → Bool) (l : List (Int × Bool)) (h : ∀ p ∈ l, q p = false) : cnt q l = 0 := by
  unfold cnt
  rw [List.filter_eq_nil_iff.2 (fun p hp => by simp [h p hp])]
  rfl

/-- In slot i, at k. -/
def inSlot (n i : Nat) (x : Int) (b : Bool → Bool) (p : Int × Bool) : Bool := decide (p.1 = x ∧ p.1.toNat % n = i) && b p.2

structure RI (l : List (Int × Bool)) (n : Nat) (last : Int) (rv : Nat → Nat → Int) : Prop where
  all : ∀ i, i < n → rv i 1 = cnt (inSlot n i (rv i 0) (fun _ => true)) l
  bad : ∀ i, i < n → rv i 2 = cnt (inSlot n i (rv i 0) id) l
  here : ∀ p ∈ l, last - n < p.1 → rv (p.1.toNat % n) 0 = p.1
  pos : ∀ p ∈ l, 0 ≤ p.1 ∧ p.1 ≤ last

theorem sumTo_congr (c c' : Nat → Bool) (f f' : Nat → Int) (n : Nat) (h : ∀ i, i < n → c i = c' i ∧ (c i = true → f i = f' i)) : sumTo c f n = sumTo c' f' n := by
  induction n with
  | zero => rfl
  | succ n ih =>
    simp only [sumTo]
    rw [ih (fun i hi => h i (by omega))]
    obtain ⟨h1, h2⟩ := h n (by omega)
    rw [← h1]
    cases hc : c n
    · rfl
    · simp [h2 hc]

theorem sumTo_add (c : Nat → Bool) (f g : Nat → Int) (n : Nat) : sumTo c (fun i => f i + g i) n = sumTo c f n + sumTo c g n := by
  induction n with
  | zero => rfl
  | succ n ih =>
    simp only [sumTo]
    rw [ih]
    cases c n <;> simp <;> omega

theorem sumTo_delta (c : Nat → Bool) (d : Nat → Bool) (n i0 : Nat) (hi : i0 < n) (hd : ∀ i, d i = true → i = i0) : sumTo c (fun i => if d i then 1 else 0) n = if c i0 && d i0 then 1 else 0 := by
  have key : ∀ m, sumTo c (fun i => if d i then 1 else 0) m = if i0 < m ∧ (c i0 && d i0) = true then 1 else 0 := by
    intro m
    induction m with
    | zero => simp [sumTo]
    | succ m ih =>
      simp only [sumTo]
      rw [ih]
      by_cases e : m = i0
      · subst e
        rw [if_neg (by omega)]
        cases c m <;> cases d m <;> simp
      · have hm : d m = false := by
          cases h : d m
          · rfl
          · exact absurd (hd m h) e
        rw [hm]
        have : (i0 < m + 1) ↔ i0 < m := by omega
        simp [this]
  rw [key n]
  simp [hi]

/-- The sum over the ring is the count over the list. -/
theorem ring_sum (c : Int → Bool) (a : Nat → Int) (n : Nat) (hn : 0 < n) (b : Bool → Bool) (l : List (Int × Bool)) (h : ∀ p ∈ l, c p.1 = true → a (p.1.toNat % n) = p.1) :
    sumTo (fun i => c (a i)) (fun i => cnt (inSlot n i (a i) b) l) n = cnt (fun p => c p.1 && b p.2) l := by
  have key : ∀ m, m ≤ l.length → sumTo (fun i => c (a i)) (fun i => cnt (inSlot n i (a i) b) (l.take m)) n = cnt (fun p => c p.1 && b p.2) (l.take m) := by
    intro m
    induction m with
    | zero =>
      intro _
      have : ∀ k, sumTo (fun i => c (a i)) (fun i => cnt (inSlot n i (a i) b) (l.take 0)) k = 0 := by
        intro k
        induction k with
        | zero => rfl
        | succ k ih => simp only [sumTo]; rw [ih]; simp [cnt]
      rw [this]
      simp [cnt]
    | succ m ih =>
      intro hm
      have hm' : m < l.length := by omega
      rw [List.take_succ_eq_append_getElem hm', cnt_snoc, ← ih (by omega)]
      have e1 : (fun i => cnt (inSlot n i (a i) b) (l.take m ++ [l[m]])) = fun i => cnt (inSlot n i (a i) b) (l.take m) + (if inSlot n i (a i) b l[m] then 1 else 0) := by
        funext i
        rw [cnt_snoc]
      rw [e1, sumTo_add, sumTo_delta _ (fun i => inSlot n i (a i) b l[m]) n (l[m].1.toNat % n) (Nat.mod_lt _ hn)]
      · congr 1
        have hp := h l[m] (List.getElem_mem hm')
        cases hc : c l[m].1
        · by_cases e : a (l[m].1.toNat % n) = l[m].1
          · simp [e, hc, inSlot]
          · have e' : ¬ l[m].1 = a (l[m].1.toNat % n) := fun h => e h.symm
            simp [inSlot, e']
        · rw [hp hc]
          simp [hc, inSlot]
      · intro i hi
        simp only [inSlot, Bool.and_eq_true, decide_eq_true_eq] at hi
        exact hi.1.2.symm
  have := key l.length (Nat.le_refl _)
  rwa [List.take_length] at this

theorem RI.rate {l : List (Int × Bool)} {n : Nat} {last : Int} {rv : Nat → Nat → Int} (h : RI l n last rv) (hn : 0 < n) (k : Int) :
    sumTo (fun i => inB n k last (rv i 0)) (fun i => rv i 1) n = cnt (fun p => inB n k last p.1) l ∧
    sumTo (fun i => inB n k last (rv i 0)) (fun i => rv i 2) n = cnt (fun p => inB n k last p.1 && p.2) l := by
  have hc : ∀ p ∈ l, inB n k last p.1 = true → rv (p.1.toNat % n) 0 = p.1 := by
    intro p hp hb
    simp only [inB, decide_eq_true_eq] at hb
    exact h.here p hp hb.2.2
  constructor
  · have := ring_sum (inB n k last) (fun i => rv i 0) n hn (fun _ => true) l hc
    rw [sumTo_congr _ (fun i => inB n k last (rv i 0)) _ (fun i => cnt (inSlot n i (rv i 0) (fun _ => true)) l) n (fun i hi => ⟨rfl, fun _ => h.all i hi⟩), this]
    simp
  · have := ring_sum (inB n k last) (fun i => rv i 0) n hn id l hc
    rw [sumTo_congr _ (fun i => inB n k last (rv i 0)) _ (fun i => cnt (inSlot n i (rv i 0) id) l) n (fun i hi => ⟨rfl, fun _ => h.bad i hi⟩), this]
    rfl

theorem RI.start (n : Nat) : RI [] n 0 (fun _ _ => 0) := ⟨fun _ _ => by simp [cnt], fun _ _ => by simp [cnt], fun p (h : p ∈ []) => absurd h (by simp), fun p (h : p ∈ []) => absurd h (by simp)⟩

theorem mod_near {a b n : Nat} (h : a % n = b % n) (h1 : a < b + n) (h2 : b < a + n) : a = b := by
  have ha := Nat.div_add_mod a n
  have hb := Nat.div_add_mod b n
  rw [h] at ha
  rcases Nat.lt_trichotomy (a / n) (b / n) with h3 | h3 | h3
  · have : n * (a / n + 1) ≤ n * (b / n) := Nat.mul_le_mul_left _ h3
    rw [Nat.mul_add] at this
    omega
  · rw [h3] at ha; omega
  · have : n * (b / n + 1) ≤ n * (a / n) := Nat.mul_le_mul_left _ h3
    rw [Nat.mul_add] at this
    omega

theorem RI.add {l : List (Int × Bool)} {n : Nat} {last : Int} {rv : Nat → Nat → Int} (h : RI l n last rv) (k : Nat) (ok : Bool) (hk : last - n < k) :
    RI (l ++ [((k : Int), !ok)]) n (max last k) (addR rv n k ok) := by
  have hzero : ¬ rv (k % n) 0 = k → ∀ b, cnt (inSlot n (k % n) (k : Int) b) l = 0 := by
    intro hne b
    refine cnt_zero _ _ (fun p hp => ?_)
    cases hq : inSlot n (k % n) (k : Int) b p
    · rfl
    · simp only [inSlot, Bool.and_eq_true, decide_eq_true_eq] at hq
      have := h.here p hp (by rw [hq.1.1]; exact hk)
      rw [hq.1.1] at this
      simp only [Int.toNat_natCast] at this
      exact absurd this hne
  have e0 : ∀ i, addR rv n k ok i 0 = if i = k % n then (k : Int) else rv i 0 := fun i => rfl
  have hslot : ∀ (b : Bool → Bool), inSlot n (k % n) (k : Int) b ((k : Int), !ok) = b (!ok) := by
    intro b
    simp [inSlot]
  have hother : ∀ i (x : Int) (b : Bool → Bool), i ≠ k % n → inSlot n i x b ((k : Int), !ok) = false := by
    intro i x b hi
    simp only [inSlot, Bool.and_eq_false_iff, decide_eq_false_iff_not]
    left
    rintro ⟨_, h2⟩
    simp only [Int.toNat_natCast] at h2
    exact hi h2.symm
  refine ⟨fun i hi => ?_, fun i hi => ?_, fun p hp hl => ?_, fun p hp => ?_⟩
  · rw [e0]
    by_cases hik : i = k % n
    · subst hik
      rw [if_pos rfl, cnt_snoc, hslot]
      by_cases e : rv (k % n) 0 = k
      · have := h.all _ hi
        rw [e] at this
        simp [addR, e, this]
      · simp [addR, e, hzero e]
    · rw [if_neg hik, cnt_snoc, hother i _ _ hik]
      simp [addR, hik, h.all i hi]
  · rw [e0]
    by_cases hik : i = k % n
    · subst hik
      rw [if_pos rfl, cnt_snoc, hslot]
      by_cases e : rv (k % n) 0 = k
      · have := h.bad _ hi
        rw [e] at this
        cases ok <;> simp [addR, e, this]
      · cases ok <;> simp [addR, e, hzero e]
    · rw [if_neg hik, cnt_snoc, hother i _ _ hik]
      simp [addR, hik, h.bad i hi]
  · rw [e0]
    rw [List.mem_append] at hp
    rcases hp with hp | hp
    · have hpos := h.pos p hp
      by_cases e : p.1.toNat % n = k % n
      · rw [if_pos e]
        have := mod_near e (by omega) (by omega)
        omega
      · rw [if_neg e]
        exact h.here p hp (by omega)
    · simp only [List.mem_singleton] at hp
      subst hp
      simp
  · rw [List.mem_append] at hp
    rcases hp with hp | hp
    · have hpos := h.pos p hp
      omega
    · simp only [List.mem_singleton] at hp
      subst hp
      simp only
      omega

theorem cntA_zip (c : Int → Bool) (ks : List Int) (bs : List Bool) (hl : bs.length = ks.length) : cntA c ks = cnt (fun p => c p.1) (ks.zip bs) := by
  unfold cntA cnt
  have : ks = (ks.zip bs).map (·.1) := by rw [List.map_fst_zip]; omega
  conv => lhs; rw [this]
  rw [List.filter_map, List.length_map]
  rfl
end Go.Proofs.Ythbeednmekajaaa
