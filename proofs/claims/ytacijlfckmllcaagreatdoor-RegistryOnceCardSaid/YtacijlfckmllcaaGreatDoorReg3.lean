/-
  The registry's state, plainly; and where it lies in memory.
-/
import Derived.Test.YtacijlfckmllcaaGreatDoorReg2
import Derived.Maps.Own
import Derived.Maps.OwnOps
import Derived.Maps.OwnSet
import Derived.Maps.Views
import Derived.Deep.DeepCutAuto
namespace Go.Proofs.YtacijlfckmllcaaGreatDoor
open Go.RowKit Go.Maps

theorem cells_new_at (w : World) (l : List Value) (t : TypeId) (g : Nat) (h : g = w.heap.size) : ∀ j u, l[j]? = some u → (w.alloc (.cells l.toArray t)).cell? ((⟨g, 0, none⟩ : Addr).add j) = some u := by
  subst h
  intro j u hj
  have hadd : (⟨w.heap.size, 0, none⟩ : Addr).add j = ⟨w.heap.size, j, none⟩ := by unfold Addr.add; split <;> simp_all
  rw [hadd, (Blk.new w t l.toArray).cell j]
  simpa using hj
theorem own_drew {w : World} {base : Nat} {e : TypeId} {size n : Nat} {v : Value} {xs : List Value} (h : w.ownsRow base e size v n xs) : w.drew.ownsRow base e size v n xs := h
theorem news_drew_at (w : World) (l : List Value) (t : TypeId) (g : Nat) (h : g = w.heap.size) : ∀ j u, l[j]? = some u → ((w.alloc (.cells l.toArray t)).drew).cell? ((⟨g, 0, none⟩ : Addr).add j) = some u := cells_new_at w l t g h

structure Rw where
  nm : ByteArray
  kd : Int
  fc : Int

def rwc (r : Rw) : List Value := [.string r.nm, .int .u8 r.kd, .int .u32 r.fc]
def rwsC (l : List Rw) : List Value := l.flatMap rwc
theorem rwsC_snoc (l : List Rw) (r : Rw) : rwsC (l ++ [r]) = rwsC l ++ rwc r := by simp [rwsC]
theorem rwsC_len (l : List Rw) : (rwsC l).length = l.length * 3 := by
  induction l with
  | nil => rfl
  | cons a l ih => simp only [rwsC, List.flatMap_cons, List.length_append] at ih ⊢; rw [ih]; simp [rwc]; omega
theorem rwsC_at (l : List Rw) (i j : Nat) (r : Rw) (hi : l[i]? = some r) (hj : j < 3) : (rwsC l)[i * 3 + j]? = (rwc r)[j]? := by
  induction l generalizing i with
  | nil => simp at hi
  | cons a l ih =>
    cases i with
    | zero =>
      simp at hi
      subst hi
      simp only [rwsC, List.flatMap_cons, Nat.zero_mul, Nat.zero_add]
      rw [List.getElem?_append_left (by simp [rwc]; omega)]
    | succ i =>
      simp at hi
      have := ih i hi
      simp only [rwsC, List.flatMap_cons]
      rw [List.getElem?_append_right (by simp [rwc]; omega)]
      have e : (i + 1) * 3 + j - (rwc a).length = i * 3 + j := by simp [rwc]; omega
      rw [e]
      exact this

structure St where
  rows : List Rw
  taken : List Rw
  fz : Bool

def hasNm (rows : List Rw) (nm : ByteArray) : Bool := rows.any fun r => decide (r.nm = nm)
def enterS (s : St) (x : Rw) : St × Int :=
  if s.fz then (s, 5)
  else if x.nm.size = 0 ∨ 4096 < x.nm.size then (s, 170)
  else if x.kd < 1 ∨ 26 < x.kd then (s, 40)
  else if hasNm s.rows x.nm then ({ s with taken := s.taken ++ [x] }, 171)
  else ({ s with rows := s.rows ++ [x] }, 0)

/-- What the map of names holds. -/
structure NamesOk (D : DataW Unit) (rows : List Rw) : Prop where
  isMap : IsMap D
  has_ : ∀ nm : ByteArray, has D (.string nm.data.toList) = hasNm rows nm
  at_ : ∀ (i : Nat) (r : Rw), rows[i]? = some r → ∀ z, D.atKey (.string r.nm.data.toList) z = .lit (.int .i64 (i : Int))

theorem bytes_ext {a b : ByteArray} (h : a.data.toList = b.data.toList) : a = b := by
  cases a; cases b
  simp at h
  simp [h]
theorem NamesOk.nil : NamesOk (.map []) [] := ⟨isMap_empty, fun _ => rfl, fun i r h => by simp at h⟩

theorem NamesOk.snoc {D : DataW Unit} {rows : List Rw} (h : NamesOk D rows) (x : Rw) (hn : hasNm rows x.nm = false) :
    NamesOk (D.put (.string x.nm.data.toList) (.lit (.int .i64 (rows.length : Int)))) (rows ++ [x]) := by
  have hk : WideAt.IsKeyLit (.string x.nm.data.toList) := trivial
  refine ⟨?_, fun nm => ?_, fun i r hi z => ?_⟩
  · exact h.isMap.put _ _
  · by_cases e : nm = x.nm
    · subst e
      rw [has_put_same h.isMap hk]
      simp [hasNm]
    · have hne : (Lit.string nm.data.toList) ≠ .string x.nm.data.toList := fun h' => e (bytes_ext (by injection h'))
      rw [has_put_other hne, h.has_ nm]
      simp [hasNm, Ne.symm e]
  · by_cases hil : i < rows.length
    · rw [List.getElem?_append_left hil] at hi
      have e : r.nm ≠ x.nm := fun e => by
        have : hasNm rows x.nm = true := by
          unfold hasNm
          rw [List.any_eq_true]
          exact ⟨r, List.mem_of_getElem? hi, by rw [e]; simp⟩
        rw [this] at hn
        cases hn
      have hne : (Lit.string r.nm.data.toList) ≠ .string x.nm.data.toList := fun h' => e (bytes_ext (by injection h'))
      rw [atKey_put_other hne]
      exact h.at_ i r hi z
    · have hie : i = rows.length := by
        have := (List.getElem?_eq_some_iff.1 hi).1
        simp at this
        omega
      subst hie
      rw [List.getElem?_append_right (Nat.le_refl _)] at hi
      simp at hi
      subst hi
      exact atKey_put_same h.isMap hk _ _
end Go.Proofs.YtacijlfckmllcaaGreatDoor
