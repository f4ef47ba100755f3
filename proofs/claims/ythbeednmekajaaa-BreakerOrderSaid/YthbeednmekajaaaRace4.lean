import Derived.Test.YthbeednmekajaaaRace3
/-
  A whole race, plainly: the calls, the schedule, then each call to its end.
-/
namespace Go.Proofs.Ythbeednmekajaaa

def initR (cs : Nat → Cl) (len : Nat) : List R := (List.range len).map fun i => r0 (cs i).done (cs i).of_ (cs i).ok (cs i).now 0

/-- A race's calls in a list, each as it was handed in but for its course. -/
structure Inv (cs : Nat → Cl) (len : Nat) (n : Int) (rs : List R) : Prop where
  len : rs.length = len
  is_ : ∀ (i : Nat) (r : R), rs[i]? = some r → r.done = (cs i).done ∧ r.of_ = (cs i).of_ ∧ r.ok = (cs i).ok ∧ r.now = (cs i).now
  ok : RsOk n rs

/-- May these be the calls of a race? -/
def goodAt (cs : Nat → Cl) (i : Nat) : Bool := tickB (cs i).now && (!(cs i).done || (decide (0 ≤ (cs i).of_) && decide ((cs i).of_ < i) && !(cs (cs i).of_.toNat).done))
def Good (cs : Nat → Cl) (len : Nat) : Prop := ∀ i, i < len → goodAt cs i = true

theorem goodAt_done {cs : Nat → Cl} {i : Nat} (h : goodAt cs i = true) (hd : (cs i).done = true) : 0 ≤ (cs i).of_ ∧ (cs i).of_ < i := by
  unfold goodAt at h
  rw [hd] at h
  simp at h
  exact ⟨h.2.1.1, h.2.1.2⟩

theorem goodAt_tick {cs : Nat → Cl} {i : Nat} (h : goodAt cs i = true) : tickB (cs i).now = true := by
  unfold goodAt at h
  simp only [Bool.and_eq_true] at h
  exact h.1

theorem initR_at (cs : Nat → Cl) (len i : Nat) (hi : i < len) : (initR cs len)[i]? = some (r0 (cs i).done (cs i).of_ (cs i).ok (cs i).now 0) := by
  simp [initR, hi]

theorem initR_inv {cs : Nat → Cl} {len : Nat} (hg : Good cs len) : Inv cs len 0 (initR cs len) := by
  refine ⟨by simp [initR], fun i r hr => ?_, fun i r hr => ?_⟩
  · have hi : i < len := by have := (List.getElem?_eq_some_iff.1 hr).1; simpa [initR] using this
    rw [initR_at cs len i hi] at hr
    injection hr with hr
    subst hr
    exact ⟨rfl, rfl, rfl, rfl⟩
  · have hi : i < len := by have := (List.getElem?_eq_some_iff.1 hr).1; simpa [initR] using this
    rw [initR_at cs len i hi] at hr
    injection hr with hr
    subst hr
    exact ⟨fun hd => goodAt_done (hg i hi) hd, Int.le_refl _, Int.le_refl _⟩

theorem Inv.take {cs : Nat → Cl} {len : Nat} {n : Int} {t : T} {v : V} {rs : List R} (h : Inv cs len n rs) (i : Nat) : Inv cs len (n + 1) (takeR t (v, rs) i).2 := by
  refine ⟨by rw [takeR_len]; exact h.len, ?_, takeR_ok i h.ok⟩
  rcases takeR_cases t v rs i with e | ⟨r, r', hr, _, hs, e⟩ <;> rw [e]
  · exact h.is_
  · intro k x hx
    have hi : i < rs.length := (List.getElem?_eq_some_iff.1 hr).1
    by_cases hk : i = k
    · subst hk
      rw [List.getElem?_set_self hi] at hx
      injection hx with hx
      subst hx
      obtain ⟨a, b, c, d⟩ := h.is_ i r hr
      exact ⟨hs.done.trans a, hs.of_.trans b, hs.ok.trans c, hs.now.trans d⟩
    · rw [List.getElem?_set_ne hk] at hx
      exact h.is_ k x hx

theorem Inv.takeN {cs : Nat → Cl} {len : Nat} {n : Int} {t : T} {s : V × List R} (h : Inv cs len n s.2) (i m : Nat) : Inv cs len (n + m) (takeN t s i m).2 := by
  induction m with
  | zero => simpa [Go.Proofs.Ythbeednmekajaaa.takeN] using h
  | succ m ih =>
    have := ih.take (t := t) (v := (Go.Proofs.Ythbeednmekajaaa.takeN t s i m).1) i
    have e : n + ((m + 1 : Nat) : Int) = n + m + 1 := by omega
    rw [e]
    exact this

/-- A number of the schedule. -/
def stepAt (t : T) (s : V × List R) (x : Int) : V × List R := if 0 ≤ x then takeR t s x.toNat else s

def runSched (t : T) (s : V × List R) (xs : Nat → Int) : Nat → V × List R
  | 0 => s
  | k + 1 => stepAt t (runSched t s xs k) (xs k)

def finR (t : T) (s : V × List R) : Nat → V × List R
  | 0 => s
  | k + 1 => takeN t (finR t s k) k 3

def raceR (t : T) (cs : Nat → Cl) (len : Nat) (xs : Nat → Int) (n : Nat) : V × List R := finR t (runSched t (v0, initR cs len) xs n) len

theorem Inv.mono {cs : Nat → Cl} {len : Nat} {n m : Int} {rs : List R} (h : Inv cs len n rs) (hm : n ≤ m) : Inv cs len m rs :=
  ⟨h.len, h.is_, fun i r hr => by obtain ⟨a, b, c⟩ := h.ok i r hr; exact ⟨a, b, by omega⟩⟩

theorem Inv.at_ {cs : Nat → Cl} {len : Nat} {n : Int} {t : T} {s : V × List R} (h : Inv cs len n s.2) (x : Int) : Inv cs len (n + 1) (stepAt t s x).2 := by
  unfold stepAt
  split
  · exact h.take (v := s.1) _
  · exact h.mono (by omega)

theorem Inv.sched {cs : Nat → Cl} {len : Nat} {n : Int} {t : T} {s : V × List R} (h : Inv cs len n s.2) (xs : Nat → Int) (k : Nat) : Inv cs len (n + k) (runSched t s xs k).2 := by
  induction k with
  | zero => simpa [runSched] using h
  | succ k ih =>
    have e : n + ((k + 1 : Nat) : Int) = n + k + 1 := by omega
    rw [e]
    exact ih.at_ (xs k)

theorem Inv.fin {cs : Nat → Cl} {len : Nat} {n : Int} {t : T} {s : V × List R} (h : Inv cs len n s.2) (k : Nat) : Inv cs len (n + 3 * k) (finR t s k).2 := by
  induction k with
  | zero => simpa [finR] using h
  | succ k ih =>
    have e : n + 3 * ((k + 1 : Nat) : Int) = n + 3 * k + (3 : Nat) := by omega
    rw [e]
    exact ih.takeN k 3

theorem stepAt_kept (t : T) (s : V × List R) (x : Int) : Kept s.2 (stepAt t s x).2 := by
  unfold stepAt
  split
  · exact takeR_kept t s.1 s.2 _
  · exact fun _ _ h _ => h

/-- Whom call k waits for, behind those ahead of it. -/
theorem waits_of {cs : Nat → Cl} {len : Nat} {n : Int} {rs : List R} (hg : Good cs len) (h : Inv cs len n rs) {k : Nat} {r : R} (hk : k < len) (hr : rs[k]? = some r) (ho : ∀ j, j < k → overAt rs j = true) : ∃ c, Waits rs k r c := by
  obtain ⟨a, b, _, _⟩ := h.is_ k r hr
  cases hd : r.done
  · exact ⟨none, .inl ⟨hd, rfl⟩⟩
  · obtain ⟨h0, h1⟩ := goodAt_done (hg k hk) (by rw [← a]; exact hd)
    rw [← b] at h0 h1
    have hlt : r.of_.toNat < rs.length := by rw [h.len]; omega
    have hro : rs[r.of_.toNat]? = some rs[r.of_.toNat] := List.getElem?_eq_getElem hlt
    have hov := ho r.of_.toNat (by omega)
    unfold overAt at hov
    rw [hro] at hov
    exact ⟨some (rs[r.of_.toNat].rp, rs[r.of_.toNat].rc), .inr ⟨_, hd, hro, hov, by omega, rfl⟩⟩

theorem kept_over {rs rs' : List R} (h : Kept rs rs') (hl : rs'.length = rs.length) {j : Nat} (ho : overAt rs j = true) : overAt rs' j = true := by
  unfold overAt at ho ⊢
  cases hr : rs[j]? with
  | none =>
    have : rs.length ≤ j := List.getElem?_eq_none_iff.1 hr
    rw [List.getElem?_eq_none (by omega)]
  | some r =>
    rw [hr] at ho
    rw [h j r hr ho]
    exact ho

/-- Behind k rounds of the last loop the first k calls are over. -/
theorem fin_over {cs : Nat → Cl} {len : Nat} {n : Int} {t : T} {s : V × List R} (hg : Good cs len) (h : Inv cs len n s.2) (k : Nat) (hk : k ≤ len) : ∀ j, j < k → overAt (finR t s k).2 j = true := by
  induction k with
  | zero => intro j hj; omega
  | succ k ih =>
    have ih := ih (by omega)
    have hi := h.fin (t := t) k
    have hlt : k < (finR t s k).2.length := by rw [hi.len]; omega
    have hr : (finR t s k).2[k]? = some (finR t s k).2[k] := List.getElem?_eq_getElem hlt
    obtain ⟨c, hw⟩ := waits_of hg hi (by omega) hr ih
    intro j hj
    by_cases hjk : j = k
    · subst hjk
      have := takeN_over (t := t) (v := (finR t s j).1) hr hw
      exact this
    · exact kept_over (takeN_kept t _ k 3) (takeN_len t _ k 3) (ih j (by omega))

theorem fin_waits {cs : Nat → Cl} {len : Nat} {n : Int} {t : T} {s : V × List R} (hg : Good cs len) (h : Inv cs len n s.2) {k : Nat} (hk : k < len) : overAt (takeN t (finR t s k) k 3).2 k = true :=
  fin_over hg h (t := t) (k + 1) (by omega) k (by omega)

/-- What came of a call. -/
def ranCells (r : R) : List Value := [.int .i64 r.rp, .int .i64 r.rc, .int .i64 r.rt]
def ransOf (rs : List R) (k : Nat) : List Value := (rs.take k).flatMap ranCells

theorem ransOf_succ {cs : Nat → Cl} {len : Nat} {n : Int} {t : T} {s : V × List R} (hg : Good cs len) (h : Inv cs len n s.2) {k : Nat} (hk : k < len) {r : R} (hr : (finR t s (k + 1)).2[k]? = some r) :
    ransOf (finR t s (k + 1)).2 (k + 1) = ransOf (finR t s k).2 k ++ ranCells r := by
  have hlt : k < (finR t s (k + 1)).2.length := (List.getElem?_eq_some_iff.1 hr).1
  have e : (finR t s (k + 1)).2.take (k + 1) = (finR t s k).2.take k ++ [r] := by
    rw [List.take_succ_eq_append_getElem hlt]
    obtain ⟨_, er⟩ := List.getElem?_eq_some_iff.1 hr
    rw [er]
    congr 1
    apply List.ext_getElem?
    intro j
    by_cases hj : j < k
    · rw [List.getElem?_take_of_lt hj, List.getElem?_take_of_lt hj]
      have hi := h.fin (t := t) k
      have hlj : j < (finR t s k).2.length := by rw [hi.len]; omega
      have hrj : (finR t s k).2[j]? = some (finR t s k).2[j] := List.getElem?_eq_getElem hlj
      have ho := fin_over hg h (t := t) k (by omega) j hj
      unfold overAt at ho
      rw [hrj] at ho
      rw [hrj]
      exact takeN_kept t _ k 3 j _ hrj ho
    · rw [List.getElem?_eq_none (by simp; omega), List.getElem?_eq_none (by simp; omega)]
  unfold ransOf
  rw [e]
  simp
end Go.Proofs.Ythbeednmekajaaa
