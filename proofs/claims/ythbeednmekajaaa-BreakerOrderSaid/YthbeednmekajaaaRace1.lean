import Derived.Test.YthbeednmekajaaaBrk9
/-
  A race of calls, in plain Lean: the program's state (R) and the document's (Q), step by step the same.
-/
namespace Go.Proofs.Ythbeednmekajaaa

/-- A call of a race. -/
structure Cl where
  done : Bool
  of_ : Int
  ok : Bool
  now : Int

/-- The document's call under way. -/
structure Q where
  done : Bool
  of_ : Int
  ok : Bool
  now : Int
  read : Bool
  old : V
  next : V
  pass : Int
  code : Int
  tries : Int
  over : Bool

/-- The program's next step of call i. -/
def takeR (t : T) (s : V × List R) (i : Nat) : V × List R :=
  match s.2[i]? with
  | none => s
  | some r =>
    if r.over then s
    else if r.done then
      match s.2[r.of_.toNat]? with
      | none => s
      | some o =>
        if o.over then
          if o.rc = 0 then ((stepR t s.1 { r with pass := o.rp }).1, s.2.set i (stepR t s.1 { r with pass := o.rp }).2)
          else (s.1, s.2.set i { r with rc := 250, over := true })
        else s
    else ((stepR t s.1 r).1, s.2.set i (stepR t s.1 r).2)

/-- What a call makes of a cell, as the document has it; p: the pass of the call it is the end of. -/
def doesQ (t : T) (v : V) (q : Q) (p : Int) : V × Int × Int :=
  if q.done then ((doneV t v p q.ok q.now).1, q.pass, (doneV t v p q.ok q.now).2) else allowV t v q.now

def stepQ1 (t : T) (v : V) (q : Q) (p : Int) : V × Q :=
  if q.read then
    if v = q.old then (q.next, { q with read := false, tries := q.tries + 1, pass := (doesQ t v q p).2.1, code := (doesQ t v q p).2.2, over := true })
    else (v, { q with read := false, tries := q.tries + 1 })
  else if (doesQ t v q p).1 = v then (v, { q with pass := (doesQ t v q p).2.1, code := (doesQ t v q p).2.2, over := true })
  else (v, { q with read := true, old := v, next := (doesQ t v q p).1 })

def stepQ (t : T) (s : V × List Q) (i : Nat) : V × List Q :=
  match s.2[i]? with
  | none => s
  | some q =>
    if q.over then s
    else if q.done then
      match s.2[q.of_.toNat]? with
      | none => s
      | some o =>
        if o.over then
          if o.code = 0 then ((stepQ1 t s.1 q o.pass).1, s.2.set i (stepQ1 t s.1 q o.pass).2)
          else (s.1, s.2.set i { q with code := 250, over := true })
        else s
    else ((stepQ1 t s.1 q 0).1, s.2.set i (stepQ1 t s.1 q 0).2)

/-- One call in both: the same. -/
structure Sim (t : T) (rs : List R) (r : R) (q : Q) : Prop where
  done : r.done = q.done
  of_ : r.of_ = q.of_
  ok : r.ok = q.ok
  now : r.now = q.now
  read : r.read = q.read
  over : r.over = q.over
  rt : r.rt = q.tries
  rd : r.read = true → r.over = false ∧ r.old = q.old ∧ r.next = q.next ∧ callR t r.old r = (r.next, r.rp, r.rc)
  of : r.read = true → r.done = true → ∃ o, rs[r.of_.toNat]? = some o ∧ o.over = true ∧ o.rp = r.pass ∧ o.rc = 0
  ov : r.over = true → r.rp = q.pass ∧ r.rc = q.code
  no : r.over = false → q.pass = 0 ∧ q.code = 0
  dz : r.done = true → r.rp = 0

structure Sims (t : T) (rs : List R) (qs : List Q) : Prop where
  len : rs.length = qs.length
  all : ∀ (i : Nat) (r : R) (q : Q), rs[i]? = some r → qs[i]? = some q → Sim t rs r q

/-- What stands over stays. -/
theorem Sim.keep {t : T} {rs rs' : List R} {r : R} {q : Q} (h : Sim t rs r q) (hk : ∀ (i : Nat) (o : R), rs[i]? = some o → o.over = true → rs'[i]? = some o) : Sim t rs' r q :=
  ⟨h.done, h.of_, h.ok, h.now, h.read, h.over, h.rt, h.rd, fun a b => by
    obtain ⟨o, h1, h2, h3⟩ := h.of a b
    exact ⟨o, hk _ _ h1 h2, h2, h3⟩, h.ov, h.no, h.dz⟩

/-- What is over stays so. -/
def Kept (rs rs' : List R) : Prop := ∀ (k : Nat) (o : R), rs[k]? = some o → o.over = true → rs'[k]? = some o

theorem Kept.set {rs : List R} {i : Nat} {r : R} (hr : rs[i]? = some r) (ho : r.over = false) (r' : R) : Kept rs (rs.set i r') := by
  intro k o hk hov
  by_cases hi : i = k
  · subst hi
    rw [hr] at hk
    injection hk with hk
    subst hk
    rw [ho] at hov
    cases hov
  · rw [List.getElem?_set_ne hi]; exact hk

theorem Sims.set {t : T} {rs : List R} {qs : List Q} (h : Sims t rs qs) {i : Nat} {r r' : R} {q' : Q} (hr : rs[i]? = some r) (ho : r.over = false) (hs : ∀ rs', Kept rs rs' → Sim t rs' r' q') : Sims t (rs.set i r') (qs.set i q') := by
  have hi : i < rs.length := (List.getElem?_eq_some_iff.1 hr).1
  refine ⟨by simp [h.len], fun k x y hx hy => ?_⟩
  by_cases hk : i = k
  · subst hk
    rw [List.getElem?_set_self hi] at hx
    rw [List.getElem?_set_self (by rw [← h.len]; exact hi)] at hy
    injection hx with hx; injection hy with hy
    subst hx hy
    exact hs _ (Kept.set hr ho _)
  · rw [List.getElem?_set_ne hk] at hx hy
    exact (h.all k x y hx hy).keep (Kept.set hr ho _)

theorem does_call (t : T) (v : V) (r : R) (q : Q) (p : Int) (hd : r.done = q.done) (hok : r.ok = q.ok) (hn : r.now = q.now) (hp : r.done = true → r.pass = p ∧ r.rp = q.pass) : doesQ t v q p = callR t v r := by
  unfold doesQ callR
  rw [← hd, ← hok, ← hn]
  cases h : r.done
  · simp
  · obtain ⟨h1, h2⟩ := hp h
    simp [h1, h2]

/-- One step of a call. -/
theorem step_sim {t : T} {v : V} {rs : List R} {r : R} {q : Q} (h : Sim t rs r q) (ho : r.over = false) (p : Int) (hp : r.done = true → ∃ o, rs[r.of_.toNat]? = some o ∧ o.over = true ∧ o.rp = p ∧ o.rc = 0) (hof : r.done = true → r.pass = p) :
    (stepR t v r).1 = (stepQ1 t v q p).1 ∧ ∀ rs', Kept rs rs' → Sim t rs' (stepR t v r).2 (stepQ1 t v q p).2 := by
  have hno := h.no ho
  have hdc : ∀ v, doesQ t v q p = callR t v r := fun v => does_call t v r q p h.done h.ok h.now (fun hd => ⟨hof hd, by rw [h.dz hd, hno.1]⟩)
  have hrt := h.rt
  have hrpd : ∀ v, r.done = true → (callR t v r).2.1 = 0 := fun v hd => by unfold callR; rw [if_pos hd]; exact h.dz hd
  have hofr : r.done = true → ∀ rs' : List R, Kept rs rs' → ∃ o, rs'[r.of_.toNat]? = some o ∧ o.over = true ∧ o.rp = r.pass ∧ o.rc = 0 := by
    intro hd rs' hk
    obtain ⟨o, h1, h2, h3, h4⟩ := hp hd
    exact ⟨o, hk _ _ h1 h2, h2, by rw [hof hd]; exact h3, h4⟩
  unfold stepR stepQ1
  rw [← h.read, hdc]
  cases hr : r.read
  · simp only [Bool.false_eq_true, if_false]
    by_cases hc : (callR t v r).1 = v
    · simp only [hc, not_true_eq_false, decide_false, if_true, Bool.not_false]
      refine ⟨trivial, fun rs' hk => ⟨h.done, h.of_, h.ok, h.now, ?_, rfl, h.rt, by simp, by simp, by simp, by simp, fun hd => hrpd v hd⟩⟩
      rfl
    · simp only [hc, not_false_eq_true, decide_true, if_false, Bool.not_true]
      refine ⟨trivial, fun rs' hk => ⟨h.done, h.of_, h.ok, h.now, rfl, ?_, h.rt, fun _ => ⟨rfl, rfl, rfl, ?_⟩, fun _ hd => hofr hd rs' hk, by simp, fun _ => hno, fun hd => hrpd v hd⟩⟩
      · show false = q.over
        rw [← h.over, ho]
      · unfold callR
        cases hd : r.done
        · simp
        · simp [h.dz hd]
  · simp only [if_true]
    obtain ⟨_, e1, e2, e3⟩ := h.rd hr
    rw [← e1]
    by_cases hv : r.old = v
    · rw [if_pos hv, if_pos hv.symm]
      refine ⟨e2, fun rs' hk => ⟨h.done, h.of_, h.ok, h.now, rfl, rfl, by simp [hrt], by simp, by simp, fun _ => ?_, by simp, fun hd => h.dz hd⟩⟩
      rw [← hv, e3]
      exact ⟨rfl, rfl⟩
    · rw [if_neg hv, if_neg (Ne.symm hv)]
      refine ⟨rfl, fun rs' hk => ⟨h.done, h.of_, h.ok, h.now, rfl, ?_, by simp [hrt], by simp, by simp, by simp, fun _ => hno, fun hd => h.dz hd⟩⟩
      show false = q.over
      rw [← h.over, ho]

theorem Sim.pass {t : T} {rs : List R} {r : R} {q : Q} (h : Sim t rs r q) {o : R} (hd : r.done = true) (ho : rs[r.of_.toNat]? = some o) : Sim t rs { r with pass := o.rp } q := by
  refine ⟨h.done, h.of_, h.ok, h.now, h.read, h.over, h.rt, fun hr => ?_, fun hr hd => ?_, h.ov, h.no, h.dz⟩
  · obtain ⟨e0, e1, e2, e3⟩ := h.rd hr
    obtain ⟨o', h1, h2, h3, h4⟩ := h.of hr hd
    rw [ho] at h1
    injection h1 with h1
    subst h1
    refine ⟨e0, e1, e2, ?_⟩
    rw [h3]
    exact e3
  · obtain ⟨o', h1, h2, h3, h4⟩ := h.of hr hd
    have h1' := h1
    rw [ho] at h1
    injection h1 with h1
    subst h1
    exact ⟨_, h1', h2, rfl, h4⟩

theorem take_sim {t : T} {v : V} {rs : List R} {qs : List Q} (h : Sims t rs qs) (i : Nat) :
    (takeR t (v, rs) i).1 = (stepQ t (v, qs) i).1 ∧ Sims t (takeR t (v, rs) i).2 (stepQ t (v, qs) i).2 := by
  unfold takeR stepQ
  by_cases hi : i < rs.length
  · have hi' : i < qs.length := by rw [← h.len]; exact hi
    have hr : rs[i]? = some rs[i] := List.getElem?_eq_getElem hi
    have hq : qs[i]? = some qs[i] := List.getElem?_eq_getElem hi'
    have hs := h.all i _ _ hr hq
    simp only [hr, hq]
    generalize rs[i] = r at *
    generalize qs[i] = q at *
    rw [← hs.over]
    by_cases hov : r.over = true
    · rw [if_pos hov, if_pos hov]
      exact ⟨rfl, h⟩
    · rw [if_neg hov, if_neg hov]
      have hov : r.over = false := by simpa using hov
      rw [← hs.done]
      by_cases hd : r.done = true
      · rw [if_pos hd, if_pos hd, ← hs.of_]
        by_cases ho : r.of_.toNat < rs.length
        · have ho' : r.of_.toNat < qs.length := by rw [← h.len]; exact ho
          have hro : rs[r.of_.toNat]? = some rs[r.of_.toNat] := List.getElem?_eq_getElem ho
          have hqo : qs[r.of_.toNat]? = some qs[r.of_.toNat] := List.getElem?_eq_getElem ho'
          have hso := h.all _ _ _ hro hqo
          simp only [hro, hqo]
          generalize rs[r.of_.toNat] = o at *
          generalize qs[r.of_.toNat] = p at *
          rw [← hso.over]
          by_cases hoo : o.over = true
          · rw [if_pos hoo, if_pos hoo]
            obtain ⟨e1, e2⟩ := hso.ov hoo
            rw [← e2, ← e1]
            by_cases hz : o.rc = 0
            · rw [if_pos hz, if_pos hz]
              have hs' := hs.pass hd hro
              obtain ⟨h1, h2⟩ := step_sim (v := v) hs' hov o.rp (fun _ => ⟨o, hro, hoo, rfl, hz⟩) (fun _ => rfl)
              exact ⟨h1, h.set hr hov h2⟩
            · rw [if_neg hz, if_neg hz]
              refine ⟨rfl, h.set hr hov fun rs' hk => ?_⟩
              have hno := hs.no hov
              have hnr : r.read = true → False := fun hrd => by
                obtain ⟨o', k1, k2, k3, k4⟩ := hs.of hrd hd
                rw [hro] at k1
                injection k1 with k1
                subst k1
                exact hz k4
              refine ⟨rfl, rfl, hs.ok, hs.now, hs.read, rfl, hs.rt, fun hrd => (hnr hrd).elim, fun hrd _ => (hnr hrd).elim, fun _ => ⟨?_, rfl⟩, (fun e => nomatch e), hs.dz⟩
              show r.rp = q.pass
              rw [hs.dz hd, hno.1]
          · rw [if_neg hoo, if_neg hoo]
            exact ⟨rfl, h⟩
        · have ho' : ¬ r.of_.toNat < qs.length := by rw [← h.len]; exact ho
          simp only [List.getElem?_eq_none (Nat.le_of_not_lt ho), List.getElem?_eq_none (Nat.le_of_not_lt ho')]
          exact ⟨trivial, h⟩
      · rw [if_neg hd, if_neg hd]
        obtain ⟨h1, h2⟩ := step_sim (v := v) hs hov 0 (fun e => absurd e hd) (fun e => absurd e hd)
        exact ⟨h1, h.set hr hov h2⟩
  · have hi' : ¬ i < qs.length := by rw [← h.len]; exact hi
    simp only [List.getElem?_eq_none (Nat.le_of_not_lt hi), List.getElem?_eq_none (Nat.le_of_not_lt hi')]
    exact ⟨trivial, h⟩
end Go.Proofs.Ythbeednmekajaaa
