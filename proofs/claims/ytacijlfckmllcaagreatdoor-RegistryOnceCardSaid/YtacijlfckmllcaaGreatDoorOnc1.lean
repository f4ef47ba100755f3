/-
  What a registry that was entered keeps; 'awake'.
-/
import Derived.Test.YtacijlfckmllcaaGreatDoorFul5
namespace Go.Proofs.YtacijlfckmllcaaGreatDoor
open Go.RowKit Go.WideMaps Go.Maps

structure Good (s : St) : Prop where
  dis : ∀ (i j : Nat) (a b : Rw), s.rows[i]? = some a → s.rows[j]? = some b → a.nm = b.nm → i = j
  tk : ∀ r ∈ s.taken, hasNm s.rows r.nm = true
  sr : ∀ r ∈ s.rows, r.nm.size ≤ 4096
  st : ∀ r ∈ s.taken, r.nm.size ≤ 4096

theorem has_snoc (l : List Rw) (x : Rw) (nm : ByteArray) (h : hasNm l nm = true) : hasNm (l ++ [x]) nm = true := by
  unfold hasNm at *
  rw [List.any_append, h]
  rfl

def cnt (s : St) : Nat := s.rows.length + s.taken.length
theorem Good.enter {s : St} (h : Good s) (hf : s.fz = false) (x : Rw) : Good (enterS s x).1 ∧ (enterS s x).1.fz = false ∧
    (((enterS s x).2 = 0 ∨ (enterS s x).2 = 171) ∧ cnt (enterS s x).1 = cnt s + 1 ∨ (¬ (enterS s x).2 = 0 ∧ ¬ (enterS s x).2 = 171) ∧ cnt (enterS s x).1 = cnt s) := by
  unfold enterS
  rw [if_neg (by simp [hf])]
  by_cases h1 : x.nm.size = 0 ∨ 4096 < x.nm.size
  · rw [if_pos h1]
    exact ⟨h, hf, .inr ⟨⟨by simp, by simp⟩, rfl⟩⟩
  · rw [if_neg h1]
    by_cases h2 : x.kd < 1 ∨ 26 < x.kd
    · rw [if_pos h2]
      exact ⟨h, hf, .inr ⟨⟨by simp, by simp⟩, rfl⟩⟩
    · rw [if_neg h2]
      by_cases h3 : hasNm s.rows x.nm = true
      · rw [if_pos h3]
        refine ⟨⟨h.dis, fun r hr => ?_, h.sr, fun r hr => ?_⟩, hf, .inl ⟨.inr rfl, by simp [cnt]; omega⟩⟩
        rcases List.mem_append.1 hr with hr | hr
        · exact h.tk r hr
        · obtain rfl : r = x := by simpa using hr
          exact h3
        · rcases List.mem_append.1 hr with hr | hr
          · exact h.st r hr
          · obtain rfl : r = x := by simpa using hr
            omega
      · rw [if_neg h3]
        have hno : ∀ r ∈ s.rows, r.nm ≠ x.nm := fun r hr e => h3 (List.any_eq_true.2 ⟨r, hr, by simpa using e⟩)
        refine ⟨⟨fun i j a b hi hj he => ?_, fun r hr => has_snoc _ _ _ (h.tk r hr), fun r hr => ?_, h.st⟩, hf, .inl ⟨.inl rfl, by simp [cnt]; omega⟩⟩
        by_cases hil : i < s.rows.length
        · by_cases hjl : j < s.rows.length
          · rw [List.getElem?_append_left hil] at hi
            rw [List.getElem?_append_left hjl] at hj
            exact h.dis i j a b hi hj he
          · have hjl' := (List.getElem?_eq_some_iff.1 hj).1
            simp at hjl'
            obtain rfl : j = s.rows.length := by omega
            rw [List.getElem?_append_left hil] at hi
            simp at hj
            subst hj
            exact absurd he (hno a (List.mem_of_getElem? hi))
        · have hil' := (List.getElem?_eq_some_iff.1 hi).1
          simp at hil'
          obtain rfl : i = s.rows.length := by omega
          by_cases hjl : j < s.rows.length
          · rw [List.getElem?_append_left hjl] at hj
            simp at hi
            subst hi
            exact absurd he.symm (hno b (List.mem_of_getElem? hj))
          · have hjl' := (List.getElem?_eq_some_iff.1 hj).1
            simp at hjl'
            omega
        · rcases List.mem_append.1 hr with hr | hr
          · exact h.sr r hr
          · obtain rfl : r = x := by simpa using hr
            omega

theorem namedL_at {s : St} (h : Good s) {i : Nat} {r : Rw} (hi : s.rows[i]? = some r) : namedL s.rows r.nm = (r, 0) := by
  obtain ⟨q, hq⟩ : ∃ q, s.rows.find? (fun q => decide (q.nm = r.nm)) = some q := by
    have : (s.rows.find? (fun q => decide (q.nm = r.nm))).isSome = true := List.find?_isSome.2 ⟨r, List.mem_of_getElem? hi, by simp⟩
    exact Option.isSome_iff_exists.1 this
  have hn : q.nm = r.nm := by simpa using List.find?_some hq
  obtain ⟨j, hj⟩ := List.getElem?_of_mem (List.mem_of_find?_eq_some hq)
  have e := h.dis j i q r hj hi hn
  subst e
  have : q = r := Option.some.inj (hj.symm.trans hi)
  subst this
  unfold namedL
  rw [hq]
theorem named_has {l : List Rw} {nm : ByteArray} (h : hasNm l nm = true) : (namedL l nm).2 = 0 := by
  obtain ⟨r, hr, hd⟩ := List.any_eq_true.1 h
  obtain ⟨q, hq⟩ : ∃ q, l.find? (fun q => decide (q.nm = nm)) = some q := by
    have : (l.find? (fun q => decide (q.nm = nm))).isSome = true := List.find?_isSome.2 ⟨r, hr, hd⟩
    exact Option.isSome_iff_exists.1 this
  unfold namedL
  rw [hq]

def nWrap : ByteArray := ⟨#[119, 114, 97, 112]⟩
theorem wrap_full : namedL stF.rows nWrap = (rowA 7, 0) := by kernel_rfl

set_option maxRecDepth 100000 in
set_option maxHeartbeats 1000000 in
theorem awake_any (w : World) (hL : Laid w) : Calls Tryz.prog 6 #[] w fun e w' => e = .returned (.bool true) ∧ Chg [] w w' := by
  have HL := Lib.hid hL
  clear hL
  go_enter Tryz.func6, Tryz.ntmps6
  go_wp2_with fail
  refine (full_any w HL.out).mono ?_
  rintro e w1 ⟨g, F, rfl, hr, hf, hc⟩
  have HR := Lib.hid hr; have HF := Lib.hid hf; have HC := Lib.hid hc
  clear hr hf hc
  go_wp2_with fail
  refine (named_any w1 F g stF nWrap HR.out (by have := stF_rows; omega) (by show 4 ≤ maxLen; unfold maxLen; omega)).mono ?_
  rintro e w2 ⟨rfl, hr2, hc2⟩
  rw [wrap_full]
  simp only [rval]
  have hk : (rowA 7).kd = 14 := by kernel_rfl
  generalize rowA 7 = r at hk ⊢
  obtain ⟨nm, kd, fc⟩ := r
  simp only at hk
  subst hk
  have hr3 : RegS (w2.alloc (.cells #[.string nm, .int .u8 14, .int .u32 fc] 30)) F g stF := RegS.chg hr2 ((Chg.refl [] w2).alloc _) (by simp)
  have hc3 : Chg [] w (w2.alloc (.cells #[.string nm, .int .u8 14, .int .u32 fc] 30)) := (HC.out.onto hc2 HF.out).alloc _
  have HR3 := Lib.hid hr3; have HC3 := Lib.hid hc3
  clear hr2 hc2 hr3 hc3
  go_wp2_with fail
  refine (roll_any _ F g stF HR3.out (by have := stF_rows; omega)).mono ?_
  rintro e w4 ⟨v, rfl, ho, hr4, hc4⟩
  rw [stF_rows] at ho
  obtain ⟨A, c, rfl⟩ := own_slice ho
  have HC4 := Lib.hid (HC3.out.onto hc4 HF.out)
  clear ho hr4 hc4
  go_wp2_with fail
  go_ret
  exact ⟨rfl, HC4.out⟩
end Go.Proofs.YtacijlfckmllcaaGreatDoor
