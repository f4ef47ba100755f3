import Derived.Test.YthbeednmekajaaaOrd1
namespace Go.Proofs.Ythbeednmekajaaa

def noteI (t : T) (len : Nat) (x : (V × List R) × List Nat) (i : Int) : (V × List R) × List Nat := if 0 ≤ i then noteAt t len x i.toNat else x

def noteSched (t : T) (len : Nat) (x : (V × List R) × List Nat) (xs : Nat → Int) : Nat → (V × List R) × List Nat
  | 0 => x
  | k + 1 => noteI t len (noteSched t len x xs k) (xs k)

def noteN (t : T) (len : Nat) (x : (V × List R) × List Nat) (i : Nat) : Nat → (V × List R) × List Nat
  | 0 => x
  | n + 1 => noteAt t len (noteN t len x i n) i

def noteFin (t : T) (len : Nat) (x : (V × List R) × List Nat) : Nat → (V × List R) × List Nat
  | 0 => x
  | k + 1 => noteN t len (noteFin t len x k) k 3

theorem noteSched_fst (t : T) (len : Nat) (x : (V × List R) × List Nat) (xs : Nat → Int) (k : Nat) : (noteSched t len x xs k).1 = runSched t x.1 xs k := by
  induction k with
  | zero => rfl
  | succ k ih =>
    unfold noteSched runSched noteI stepAt
    rw [← ih]
    split <;> rfl
theorem noteN_fst (t : T) (len : Nat) (x : (V × List R) × List Nat) (i n : Nat) : (noteN t len x i n).1 = takeN t x.1 i n := by
  induction n with
  | zero => rfl
  | succ n ih =>
    unfold noteN takeN
    rw [← ih]
    rfl
theorem noteFin_fst (t : T) (len : Nat) (x : (V × List R) × List Nat) (k : Nat) : (noteFin t len x k).1 = finR t x.1 k := by
  induction k with
  | zero => rfl
  | succ k ih =>
    unfold noteFin finR
    rw [← ih, noteN_fst]

variable {t : T} {cs : Nat → Cl} {len : Nat}
theorem Ord.note {x : (V × List R) × List Nat} (h : Ord t cs len x.1 x.2) (i : Nat) : Ord t cs len (noteAt t len x i).1 (noteAt t len x i).2 := h.take i
theorem Ord.noteI {x : (V × List R) × List Nat} (h : Ord t cs len x.1 x.2) (i : Int) : Ord t cs len (noteI t len x i).1 (noteI t len x i).2 := by
  unfold Go.Proofs.Ythbeednmekajaaa.noteI
  split
  · exact h.note _
  · exact h
theorem Ord.sched {x : (V × List R) × List Nat} (h : Ord t cs len x.1 x.2) (xs : Nat → Int) (k : Nat) : Ord t cs len (noteSched t len x xs k).1 (noteSched t len x xs k).2 := by
  induction k with
  | zero => exact h
  | succ k ih => exact ih.noteI _
theorem Ord.noteN {x : (V × List R) × List Nat} (h : Ord t cs len x.1 x.2) (i n : Nat) : Ord t cs len (noteN t len x i n).1 (noteN t len x i n).2 := by
  induction n with
  | zero => exact h
  | succ n ih => exact ih.note _
theorem Ord.fin {x : (V × List R) × List Nat} (h : Ord t cs len x.1 x.2) (k : Nat) : Ord t cs len (noteFin t len x k).1 (noteFin t len x k).2 := by
  induction k with
  | zero => exact h
  | succ k ih => exact ih.noteN _ _

theorem ord_init (t : T) (cs : Nat → Cl) (len : Nat) (hs : ∃ qs, Sims t (initR cs len) qs) : Ord t cs len (v0, initR cs len) [] := by
  refine ⟨hs, by simp [initR], .nil, fun i => ?_, List.nodup_nil⟩
  simp only [List.not_mem_nil, false_iff]
  rintro ⟨hi, ho⟩
  unfold overAt at ho
  rw [initR_at cs len i hi] at ho
  cases ho

/-- The order of a whole race. -/
def orderOf (t : T) (cs : Nat → Cl) (len : Nat) (xs : Nat → Int) (n : Nat) : List Nat := (noteFin t len (noteSched t len ((v0, initR cs len), []) xs n) len).2

theorem order_fst (t : T) (cs : Nat → Cl) (len : Nat) (xs : Nat → Int) (n : Nat) : (noteFin t len (noteSched t len ((v0, initR cs len), []) xs n) len).1 = raceR t cs len xs n := by
  rw [noteFin_fst, noteSched_fst]
  rfl

theorem order_ord (t : T) (cs : Nat → Cl) (len : Nat) (xs : Nat → Int) (n : Nat) (hs : ∃ qs, Sims t (initR cs len) qs) : Ord t cs len (raceR t cs len xs n) (orderOf t cs len xs n) := by
  have := ((ord_init t cs len hs).sched (x := ((v0, initR cs len), [])) xs n).fin len
  rw [order_fst] at this
  exact this

theorem order_len (t : T) (cs : Nat → Cl) (len : Nat) (xs : Nat → Int) (n : Nat) (hg : Good cs len) (hs : ∃ qs, Sims t (initR cs len) qs) : (orderOf t cs len xs n).length = len := by
  have h := order_ord t cs len xs n hs
  have hover : ∀ i, i < len → overAt (raceR t cs len xs n).2 i = true :=
    fin_over hg ((initR_inv hg).sched (t := t) (s := (v0, initR cs len)) xs n) (t := t) len (Nat.le_refl _)
  have hp : (orderOf t cs len xs n).Perm (List.range len) := by
    refine (List.perm_ext_iff_of_nodup h.nodup List.nodup_range).2 fun i => ?_
    rw [h.mem, List.mem_range]
    exact ⟨fun hh => hh.1, fun hh => ⟨hh, hover i hh⟩⟩
  rw [hp.length_eq, List.length_range]
end Go.Proofs.Ythbeednmekajaaa
