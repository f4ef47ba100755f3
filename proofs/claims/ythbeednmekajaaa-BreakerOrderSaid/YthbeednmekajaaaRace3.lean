import Derived.Test.YthbeednmekajaaaRace2
/-
  A race's steps, plainly: lengths, tries, that three steps end a call.
-/
namespace Go.Proofs.Ythbeednmekajaaa

/-- What a step leaves as it was. -/
structure Same5 (r r' : R) : Prop where
  done : r'.done = r.done
  of_ : r'.of_ = r.of_
  ok : r'.ok = r.ok
  now : r'.now = r.now
  rt0 : r.rt ≤ r'.rt
  rt1 : r'.rt ≤ r.rt + 1

theorem stepR_same (t : T) (v : V) (r : R) : Same5 r (stepR t v r).2 := by
  unfold stepR
  by_cases hr : r.read = true
  · rw [if_pos hr]
    by_cases ho : r.old = v
    · rw [if_pos ho]; exact ⟨rfl, rfl, rfl, rfl, by simp; omega, by simp⟩
    · rw [if_neg ho]; exact ⟨rfl, rfl, rfl, rfl, by simp; omega, by simp⟩
  · rw [if_neg hr]; exact ⟨rfl, rfl, rfl, rfl, by simp, by simp; omega⟩

theorem takeR_cases (t : T) (v : V) (rs : List R) (i : Nat) : takeR t (v, rs) i = (v, rs) ∨ ∃ r r', rs[i]? = some r ∧ r.over = false ∧ Same5 r r' ∧ (takeR t (v, rs) i).2 = rs.set i r' := by
  unfold takeR
  cases hr : rs[i]? with
  | none => exact .inl rfl
  | some r =>
    simp only
    by_cases hov : r.over = true
    · rw [if_pos hov]; exact .inl rfl
    · rw [if_neg hov]
      have hov : r.over = false := by simpa using hov
      by_cases hd : r.done = true
      · rw [if_pos hd]
        cases ho : rs[r.of_.toNat]? with
        | none => exact .inl rfl
        | some o =>
          simp only
          by_cases hoo : o.over = true
          · rw [if_pos hoo]
            by_cases hz : o.rc = 0
            · rw [if_pos hz]
              have := stepR_same t v { r with pass := o.rp }
              exact .inr ⟨r, _, rfl, hov, ⟨this.done, this.of_, this.ok, this.now, this.rt0, this.rt1⟩, rfl⟩
            · rw [if_neg hz]
              exact .inr ⟨r, { r with rc := 250, over := true }, rfl, hov, ⟨rfl, rfl, rfl, rfl, Int.le_refl _, Int.le_add_one (Int.le_refl _)⟩, rfl⟩
          · rw [if_neg hoo]; exact .inl rfl
      · rw [if_neg hd]
        exact .inr ⟨r, _, rfl, hov, stepR_same t v r, rfl⟩

theorem takeR_len (t : T) (v : V) (rs : List R) (i : Nat) : (takeR t (v, rs) i).2.length = rs.length := by
  rcases takeR_cases t v rs i with h | ⟨r, r', _, _, _, h⟩ <;> rw [h]
  simp

theorem takeR_ok {t : T} {v : V} {rs : List R} {n : Int} (i : Nat) (h : RsOk n rs) : RsOk (n + 1) (takeR t (v, rs) i).2 := by
  rcases takeR_cases t v rs i with e | ⟨r, r', hr, _, hs, e⟩ <;> rw [e]
  · intro k x hx
    obtain ⟨h1, h2, h3⟩ := h k x hx
    exact ⟨h1, h2, by omega⟩
  · intro k x hx
    have hi : i < rs.length := (List.getElem?_eq_some_iff.1 hr).1
    by_cases hk : i = k
    · subst hk
      rw [List.getElem?_set_self hi] at hx
      injection hx with hx
      subst hx
      obtain ⟨h1, h2, h3⟩ := h i r hr
      have a1 := hs.rt0
      have a2 := hs.rt1
      refine ⟨fun hd => ?_, by omega, by omega⟩
      rw [hs.of_]
      exact h1 (by rw [← hs.done]; exact hd)
    · rw [List.getElem?_set_ne hk] at hx
      obtain ⟨h1, h2, h3⟩ := h k x hx
      exact ⟨h1, h2, by omega⟩

/-- What is over stays over, as it is. -/
theorem takeR_kept (t : T) (v : V) (rs : List R) (i : Nat) : Kept rs (takeR t (v, rs) i).2 := by
  rcases takeR_cases t v rs i with e | ⟨r, r', hr, ho, _, e⟩ <;> rw [e]
  · exact fun _ _ h _ => h
  · exact Kept.set hr ho r'

theorem takeR_over {t : T} {v : V} {rs : List R} {i : Nat} {r : R} (hr : rs[i]? = some r) (ho : r.over = true) : takeR t (v, rs) i = (v, rs) := by
  unfold takeR
  simp only [hr]
  rw [if_pos ho]

def takeN (t : T) (s : V × List R) (i : Nat) : Nat → V × List R
  | 0 => s
  | n + 1 => takeR t (takeN t s i n) i

theorem takeN_len (t : T) (s : V × List R) (i n : Nat) : (takeN t s i n).2.length = s.2.length := by
  induction n with
  | zero => rfl
  | succ n ih => rw [takeN, ← Prod.eta (takeN t s i n), takeR_len, ih]

theorem takeN_kept (t : T) (s : V × List R) (i n : Nat) : Kept s.2 (takeN t s i n).2 := by
  induction n with
  | zero => exact fun _ _ h _ => h
  | succ n ih =>
    intro k o h ho
    rw [takeN, ← Prod.eta (takeN t s i n)]
    exact takeR_kept t _ _ i k o (ih k o h ho) ho

theorem takeN_ok {t : T} {s : V × List R} {m : Int} (i n : Nat) (h : RsOk m s.2) : RsOk (m + n) (takeN t s i n).2 := by
  induction n with
  | zero => simpa [takeN] using h
  | succ n ih =>
    rw [takeN, ← Prod.eta (takeN t s i n)]
    have := takeR_ok (t := t) (v := (takeN t s i n).1) i ih
    have e : m + ((n + 1 : Nat) : Int) = m + n + 1 := by omega
    rw [e]; exact this

/-- Run i's own part of the state. -/
def overAt (rs : List R) (i : Nat) : Bool := match rs[i]? with | some r => r.over | none => true

theorem takeN_fix {t : T} {s : V × List R} {i n : Nat} (h : overAt (takeN t s i n).2 i = true) : ∀ m, n ≤ m → takeN t s i m = takeN t s i n := by
  intro m hm
  induction m with
  | zero => obtain rfl : n = 0 := by omega
            rfl
  | succ m ih =>
    by_cases he : n = m + 1
    · subst he; rfl
    · have e := ih (by omega)
      rw [takeN, e]
      unfold overAt at h
      cases hr : (takeN t s i n).2[i]? with
      | none =>
        rw [← Prod.eta (takeN t s i n)]
        unfold takeR
        simp only [hr]
      | some r =>
        rw [hr] at h
        rw [← Prod.eta (takeN t s i n)]
        exact takeR_over hr h

/-- A call's own step, what it is the end of laid aside: none, or that one's pass and code. -/
def soloR (t : T) (c : Option (Int × Int)) (s : V × R) : V × R :=
  if s.2.over then s else match c with
  | none => stepR t s.1 s.2
  | some (p, e) => if e = 0 then stepR t s.1 { s.2 with pass := p } else (s.1, { s.2 with rc := 250, over := true })

theorem soloR_over {t : T} {c : Option (Int × Int)} {s : V × R} (h : s.2.over = true) : soloR t c s = s := by
  unfold soloR; rw [if_pos h]

theorem soloR_two {t : T} {c : Option (Int × Int)} {s : V × R} (hr : s.2.read = false) : (soloR t c (soloR t c s)).2.over = true := by
  obtain ⟨v, done, of_, ok, now, pass, rp, rc, rt, read, old, next, over⟩ := s
  simp only at hr
  subst hr
  cases over
  · rcases c with _ | ⟨p, e⟩
    · simp only [soloR, stepR, Bool.false_eq_true, if_false]
      split <;> simp_all
    · simp only [soloR, stepR, Bool.false_eq_true, if_false]
      by_cases he : e = 0
      · simp only [he, if_true]
        split <;> simp_all
      · simp [he]
  · simp [soloR]

theorem soloR_three (t : T) (c : Option (Int × Int)) (s : V × R) : (soloR t c (soloR t c (soloR t c s))).2.over = true := by
  by_cases hr : s.2.read = false
  · rw [soloR_over (s := soloR t c (soloR t c s)) (soloR_two hr)]
    exact soloR_two hr
  · have hr : s.2.read = true := by simpa using hr
    by_cases h1 : (soloR t c s).2.over = true
    · rw [soloR_over (s := soloR t c s) h1, soloR_over (s := soloR t c s) h1]
      exact h1
    · refine soloR_two ?_
      obtain ⟨v, done, of_, ok, now, pass, rp, rc, rt, read, old, next, over⟩ := s
      simp only at hr
      subst hr
      revert h1
      cases over
      · rcases c with _ | ⟨p, e⟩
        · simp only [soloR, stepR, Bool.false_eq_true, if_false, if_true]
          split <;> simp
        · simp only [soloR, stepR, Bool.false_eq_true, if_false, if_true]
          by_cases he : e = 0
          · simp only [he, if_true]
            split <;> simp
          · simp [he]
      · simp [soloR]

/-- What a call waits for: nothing, or the end of another one. -/
def Waits (rs : List R) (i : Nat) (r : R) (c : Option (Int × Int)) : Prop :=
  (r.done = false ∧ c = none) ∨ ∃ o, r.done = true ∧ rs[r.of_.toNat]? = some o ∧ o.over = true ∧ r.of_.toNat ≠ i ∧ c = some (o.rp, o.rc)

theorem stepR_do (t : T) (v : V) (r : R) : (stepR t v r).2.done = r.done ∧ (stepR t v r).2.of_ = r.of_ := by
  have := stepR_same t v r
  exact ⟨this.done, this.of_⟩

theorem soloR_do (t : T) (c : Option (Int × Int)) (s : V × R) : (soloR t c s).2.done = s.2.done ∧ (soloR t c s).2.of_ = s.2.of_ := by
  unfold soloR
  split
  · exact ⟨rfl, rfl⟩
  · split
    · exact stepR_do t _ _
    · split
      · exact stepR_do t s.1 { s.2 with pass := _ }
      · exact ⟨rfl, rfl⟩

theorem takeR_solo {t : T} {v : V} {rs : List R} {i : Nat} {r : R} {c : Option (Int × Int)} (hr : rs[i]? = some r) (hw : Waits rs i r c) : takeR t (v, rs) i = ((soloR t c (v, r)).1, rs.set i (soloR t c (v, r)).2) := by
  have hi : i < rs.length := (List.getElem?_eq_some_iff.1 hr).1
  have hset : rs.set i r = rs := by
    obtain ⟨_, e⟩ := List.getElem?_eq_some_iff.1 hr
    rw [← e]; simp
  unfold takeR soloR
  simp only [hr]
  by_cases hov : r.over = true
  · rw [if_pos hov, if_pos hov, hset]
  · rw [if_neg hov, if_neg hov]
    rcases hw with ⟨hd, rfl⟩ | ⟨o, hd, ho, hoo, _, rfl⟩
    · rw [if_neg (by simp [hd])]
    · rw [if_pos hd]
      simp only [ho]
      rw [if_pos hoo]
      split <;> rfl

theorem takeN_solo {t : T} {v : V} {rs : List R} {i : Nat} {r : R} {c : Option (Int × Int)} (hr : rs[i]? = some r) (hw : Waits rs i r c) :
    takeN t (v, rs) i 3 = ((soloR t c (soloR t c (soloR t c (v, r)))).1, rs.set i (soloR t c (soloR t c (soloR t c (v, r)))).2) := by
  have hi : i < rs.length := (List.getElem?_eq_some_iff.1 hr).1
  have step : ∀ x : V × R, x.2.done = r.done → x.2.of_ = r.of_ → takeR t (x.1, rs.set i x.2) i = ((soloR t c x).1, rs.set i (soloR t c x).2) := by
    intro x hd ho
    rw [takeR_solo (r := x.2) (c := c) (List.getElem?_set_self hi) ?_, List.set_set]
    rcases hw with ⟨h1, h2⟩ | ⟨o, h1, h2, h3, h4, h5⟩
    · exact .inl ⟨hd.trans h1, h2⟩
    · refine .inr ⟨o, hd.trans h1, ?_, h3, by rw [ho]; exact h4, h5⟩
      rw [ho, List.getElem?_set_ne (Ne.symm h4)]
      exact h2
  have d1 := soloR_do t c (v, r)
  have d2 := soloR_do t c (soloR t c (v, r))
  simp only [takeN]
  rw [takeR_solo hr hw, step _ d1.1 d1.2, step _ (d2.1.trans d1.1) (d2.2.trans d1.2)]

/-- THREE STEPS END A CALL that waits for none. -/
theorem takeN_over {t : T} {v : V} {rs : List R} {i : Nat} {r : R} {c : Option (Int × Int)} (hr : rs[i]? = some r) (hw : Waits rs i r c) : overAt (takeN t (v, rs) i 3).2 i = true := by
  have hi : i < rs.length := (List.getElem?_eq_some_iff.1 hr).1
  rw [takeN_solo hr hw]
  unfold overAt
  rw [List.getElem?_set_self hi]
  exact soloR_three t c (v, r)
end Go.Proofs.Ythbeednmekajaaa
