import Derived.Test.YthbeednmekajaaaRace4
/-
  The order in which a race's calls are done, plainly: one behind the other they come to the same.
-/
namespace Go.Proofs.Ythbeednmekajaaa

/-- What call i comes to on a breaker that stands so: as the list says, and how it stands then. -/
def Act1 (t : T) (rs : List R) (i : Nat) (v v' : V) : Prop :=
  ∃ r, rs[i]? = some r ∧ r.over = true ∧
    ((r.done = false ∧ allowV t v r.now = (v', r.rp, r.rc)) ∨
     (r.done = true ∧ ∃ o, rs[r.of_.toNat]? = some o ∧ o.over = true ∧ ((o.rc ≠ 0 ∧ r.rc = 250 ∧ v' = v) ∨ (o.rc = 0 ∧ doneV t v o.rp r.ok r.now = (v', r.rc)))))

theorem Act1.keep {t : T} {rs rs' : List R} {i : Nat} {v v' : V} (h : Act1 t rs i v v') (hk : Kept rs rs') : Act1 t rs' i v v' := by
  obtain ⟨r, h1, h2, h3⟩ := h
  refine ⟨r, hk _ _ h1 h2, h2, ?_⟩
  rcases h3 with h3 | ⟨h3, o, h4, h5, h6⟩
  · exact .inl h3
  · exact .inr ⟨h3, o, hk _ _ h4 h5, h5, h6⟩

/-- Some calls, one behind the other. -/
inductive Plays (t : T) (rs : List R) : List Nat → V → Prop
  | nil : Plays t rs [] v0
  | snoc {l : List Nat} {i : Nat} {v v' : V} : Plays t rs l v → Act1 t rs i v v' → Plays t rs (l ++ [i]) v'

theorem Plays.keep {t : T} {rs rs' : List R} {l : List Nat} {v : V} (h : Plays t rs l v) (hk : Kept rs rs') : Plays t rs' l v := by
  induction h with
  | nil => exact .nil
  | snoc _ h2 ih => exact .snoc ih (h2.keep hk)

theorem Plays.at_ {t : T} {rs : List R} {l : List Nat} {v : V} (h : Plays t rs l v) : ∃ f : Nat → V, f 0 = v0 ∧ f l.length = v ∧ ∀ k i, l[k]? = some i → Act1 t rs i (f k) (f (k + 1)) := by
  induction h with
  | nil => exact ⟨fun _ => v0, rfl, rfl, fun k i h => by simp at h⟩
  | @snoc l i v v' h1 h2 ih =>
    obtain ⟨f, f0, f1, f2⟩ := ih
    refine ⟨fun k => if k ≤ l.length then f k else v', ?_, ?_, fun k j hk => ?_⟩
    · simp [f0]
    · show (if (l ++ [i]).length ≤ l.length then f (l ++ [i]).length else v') = v'
      rw [if_neg (by simp)]
    · by_cases hkl : k < l.length
      · rw [List.getElem?_append_left hkl] at hk
        simp only [if_pos (show k ≤ l.length by omega), if_pos (show k + 1 ≤ l.length by omega)]
        exact f2 k j hk
      · have hke : k = l.length := by
          have := (List.getElem?_eq_some_iff.1 hk).1
          simp at this
          omega
        subst hke
        rw [List.getElem?_append_right (Nat.le_refl _)] at hk
        simp at hk
        subst hk
        simp only [Nat.le_refl, if_true, if_neg (show ¬ l.length + 1 ≤ l.length by omega)]
        rw [f1]
        exact h2

/-- A race and the order of what is over in it. -/
structure Ord (t : T) (cs : Nat → Cl) (len : Nat) (s : V × List R) (l : List Nat) : Prop where
  sims : ∃ qs, Sims t s.2 qs
  length : s.2.length = len
  plays : Plays t s.2 l s.1
  mem : ∀ i, i ∈ l ↔ i < len ∧ overAt s.2 i = true
  nodup : l.Nodup

/-- One step, of a call that waits for none or whose other one is over. -/
theorem stepR_ends (t : T) (v : V) (r : R) (_ho : r.over = false) (hrd : r.read = true → callR t r.old r = (r.next, r.rp, r.rc)) (_hdz : r.done = true → r.rp = 0) :
    ((stepR t v r).2.over = true → callR t v r = ((stepR t v r).1, (stepR t v r).2.rp, (stepR t v r).2.rc)) ∧ ((stepR t v r).2.over = false → (stepR t v r).1 = v) := by
  unfold stepR
  by_cases hr : r.read = true
  · rw [if_pos hr]
    by_cases hv : r.old = v
    · rw [if_pos hv]
      refine ⟨fun _ => ?_, fun h => nomatch h⟩
      rw [← hv]
      exact hrd hr
    · rw [if_neg hv]
      exact ⟨(fun h => nomatch h), fun _ => rfl⟩
  · rw [if_neg hr]
    by_cases hc : (callR t v r).1 = v
    · refine ⟨fun _ => ?_, fun _ => rfl⟩
      show callR t v r = (v, (callR t v r).2.1, (callR t v r).2.2)
      conv => lhs; rw [← Prod.eta (callR t v r), hc]
    · refine ⟨fun h => ?_, fun _ => rfl⟩
      simp [hc] at h

theorem take_act {t : T} {v : V} {rs : List R} {qs : List Q} {i : Nat} {r : R} (hS : Sims t rs qs) (hr : rs[i]? = some r) (ho : r.over = false) :
    (overAt (takeR t (v, rs) i).2 i = true → Act1 t (takeR t (v, rs) i).2 i v (takeR t (v, rs) i).1) ∧ (overAt (takeR t (v, rs) i).2 i = false → (takeR t (v, rs) i).1 = v) := by
  have hi : i < rs.length := (List.getElem?_eq_some_iff.1 hr).1
  have hq : qs[i]? = some (qs[i]'(by rw [← hS.len]; exact hi)) := List.getElem?_eq_getElem _
  have hs := hS.all i r _ hr hq
  have same : overAt rs i = false := by unfold overAt; rw [hr]; exact ho
  unfold takeR
  simp only [hr]
  rw [if_neg (by simp [ho])]
  by_cases hd : r.done = true
  · rw [if_pos hd]
    cases hro : rs[r.of_.toNat]? with
    | none =>
      exact ⟨(fun h => by rw [same] at h; cases h), fun _ => rfl⟩
    | some o =>
      simp only
      by_cases hoo : o.over = true
      · rw [if_pos hoo]
        by_cases hz : o.rc = 0
        · rw [if_pos hz]
          have hov : ∀ x : R, overAt (rs.set i x) i = x.over := fun x => by unfold overAt; rw [List.getElem?_set_self hi]
          have hst := stepR_ends t v { r with pass := o.rp } ho (fun hrd => by
            obtain ⟨_, _, _, h4⟩ := hs.rd hrd
            obtain ⟨o', k1, k2, k3, k4⟩ := hs.of hrd hd
            rw [hro] at k1
            injection k1 with k1
            subst k1
            rw [k3]
            exact h4) hs.dz
          have hsame := stepR_same t v { r with pass := o.rp }
          simp only [hov]
          refine ⟨fun h => ?_, hst.2⟩
          have h1 := hst.1 h
          refine ⟨_, List.getElem?_set_self hi, h, .inr ⟨hsame.done.trans hd, o, ?_, hoo, .inr ⟨hz, ?_⟩⟩⟩
          · rw [hsame.of_]
            exact Kept.set hr ho _ _ _ hro hoo
          · rw [hsame.ok, hsame.now]
            unfold callR at h1
            rw [if_pos (show ({ r with pass := o.rp } : R).done = true from hd)] at h1
            simp only [Prod.mk.injEq] at h1
            obtain ⟨e1, _, e3⟩ := h1
            rw [← e1, ← e3]
        · rw [if_neg hz]
          have hov : ∀ x : R, overAt (rs.set i x) i = x.over := fun x => by unfold overAt; rw [List.getElem?_set_self hi]
          simp only [hov]
          refine ⟨fun _ => ?_, fun h => nomatch h⟩
          exact ⟨_, List.getElem?_set_self hi, rfl, .inr ⟨hd, o, Kept.set hr ho _ _ _ hro hoo, hoo, .inl ⟨hz, rfl, rfl⟩⟩⟩
      · rw [if_neg hoo]
        exact ⟨(fun h => by rw [same] at h; cases h), fun _ => rfl⟩
  · rw [if_neg hd]
    have hd' : r.done = false := by simpa using hd
    have hov : ∀ x : R, overAt (rs.set i x) i = x.over := fun x => by unfold overAt; rw [List.getElem?_set_self hi]
    have hst := stepR_ends t v r ho (fun hrd => (hs.rd hrd).2.2.2) hs.dz
    have hsame := stepR_same t v r
    simp only [hov]
    refine ⟨fun h => ?_, hst.2⟩
    have h1 := hst.1 h
    refine ⟨_, List.getElem?_set_self hi, h, .inl ⟨hsame.done.trans hd', ?_⟩⟩
    rw [hsame.now]
    unfold callR at h1
    rw [if_neg hd] at h1
    exact h1

/-- A number of the schedule, noted if it ends its call. -/
def noteAt (t : T) (len : Nat) (x : (V × List R) × List Nat) (i : Nat) : (V × List R) × List Nat :=
  (takeR t x.1 i, if i < len ∧ overAt x.1.2 i = false ∧ overAt (takeR t x.1 i).2 i = true then x.2 ++ [i] else x.2)

theorem Ord.take {t : T} {cs : Nat → Cl} {len : Nat} {s : V × List R} {l : List Nat} (h : Ord t cs len s l) (i : Nat) : Ord t cs len (noteAt t len (s, l) i).1 (noteAt t len (s, l) i).2 := by
  obtain ⟨qs, hS⟩ := h.sims
  have hS' : ∃ qs, Sims t (takeR t s i).2 qs := ⟨_, (take_sim (v := s.1) hS i).2⟩
  have hlen : (takeR t s i).2.length = len := by
    have := takeR_len t s.1 s.2 i
    exact this.trans h.length
  have hkept : Kept s.2 (takeR t s i).2 := takeR_kept t s.1 s.2 i
  have hother : ∀ j, j ≠ i → overAt (takeR t s i).2 j = overAt s.2 j := by
    intro j hj
    rcases takeR_cases t s.1 s.2 i with e | ⟨r, r', _, _, _, e⟩
    · have e : takeR t s i = s := e
      rw [e]
    · have e : (takeR t s i).2 = s.2.set i r' := e
      rw [e]
      unfold overAt
      rw [List.getElem?_set_ne (Ne.symm hj)]
  unfold noteAt
  simp only
  by_cases hi : i < len
  · have hr : s.2[i]? = some (s.2[i]'(by rw [h.length]; exact hi)) := List.getElem?_eq_getElem _
    generalize s.2[i]'(by rw [h.length]; exact hi) = r at hr
    by_cases ho : r.over = true
    · have e : takeR t s i = s := takeR_over hr ho
      have ho' : overAt s.2 i = true := by unfold overAt; rw [hr]; exact ho
      rw [e, if_neg (by rw [ho']; simp)]
      exact h
    · have ho : r.over = false := by simpa using ho
      have ho' : overAt s.2 i = false := by unfold overAt; rw [hr]; exact ho
      have hact := take_act (v := s.1) hS hr ho
      have hin : i ∉ l := fun hm => by have := ((h.mem i).1 hm).2; rw [ho'] at this; cases this
      by_cases hn : overAt (takeR t s i).2 i = true
      · rw [if_pos ⟨hi, ho', hn⟩]
        refine ⟨hS', hlen, .snoc (h.plays.keep hkept) (hact.1 hn), fun j => ?_, ?_⟩
        · by_cases hj : j = i
          · subst hj; simp [hi, hn]
          · rw [hother j hj, List.mem_append]
            simp [hj, h.mem j]
        · rw [List.nodup_append]
          refine ⟨h.nodup, by simp, fun a ha b hb => ?_⟩
          simp at hb
          subst hb
          exact fun e => hin (e ▸ ha)
      · have hn' : overAt (takeR t s i).2 i = false := by simpa using hn
        rw [if_neg (fun hh => hn hh.2.2)]
        refine ⟨hS', hlen, ?_, fun j => ?_, h.nodup⟩
        · have := h.plays.keep hkept
          have e : (takeR t s i).1 = s.1 := hact.2 hn'
          rw [e]; exact this
        · by_cases hj : j = i
          · subst hj
            rw [hn']
            simp [hin]
          · rw [hother j hj]; exact h.mem j
  · have e : takeR t s i = s := by
      unfold takeR
      rw [List.getElem?_eq_none (by rw [h.length]; omega)]
    rw [if_neg (fun hh => hi hh.1), e]
    exact h
end Go.Proofs.Ythbeednmekajaaa
