import Derived.Test.YthbeednmekajaaaRaq3
import Derived.Test.YthbeednmekajaaaRaq4
import Derived.Test.YthbeednmekajaaaRaq5
import Derived.Test.YthbeednmekajaaaRaq6
import Derived.Test.YthbeednmekajaaaRaq7
namespace Go.Proofs.Ythbeednmekajaaa
open Go.RowKit

theorem qgo (w : World) (x g cap : Nat) (t : T) (v : V) (qs : List Q) (i : Nat) (q : Q) (hQ : QRace w x g cap t v qs) (hi : qs[i]? = some q) (hov : q.over = false) (hd : q.done = false) (hcap : qs.length ≤ 8796093022208) (htr : 0 ≤ q.tries ∧ q.tries ≤ 4611686018427387904) :
    Calls Try.prog 47 #[.pointer (some ⟨x, 0, none⟩), .int .i64 i] w (QPost w x g cap t ((stepQ1 t v q 0).1, qs.set i (stepQ1 t v q 0).2)) := by
  unfold stepQ1
  by_cases hr : q.read = true
  · rw [if_pos hr]
    by_cases hv : v = q.old
    · rw [if_pos hv]
      exact qstep_hit w x g cap t v qs i q hQ hi hov hd hr hcap htr hv
    · rw [if_neg hv]
      exact qstep_miss w x g cap t v qs i q hQ hi hov hd hr hcap htr hv
  · rw [if_neg hr]
    have hr : q.read = false := by simpa using hr
    by_cases hv : (doesQ t v q 0).1 = v
    · rw [if_pos hv]
      exact qstep_read w x g cap t v qs i q hQ hi hov hd hr hcap hv
    · rw [if_neg hv]
      exact qstep_note w x g cap t v qs i q hQ hi hov hd hr hcap hv

theorem qgo_end (w : World) (x g cap : Nat) (t : T) (v : V) (qs : List Q) (i : Nat) (q : Q) (k : Nat) (o : Q) (hof : q.of_ = k) (ho : qs[k]? = some o) (hoo : o.over = true) (hoc : o.code = 0) (hQ : QRace w x g cap t v qs) (hi : qs[i]? = some q) (hov : q.over = false) (hd : q.done = true) (hcap : qs.length ≤ 8796093022208) (htr : 0 ≤ q.tries ∧ q.tries ≤ 4611686018427387904) :
    Calls Try.prog 47 #[.pointer (some ⟨x, 0, none⟩), .int .i64 i] w (QPost w x g cap t ((stepQ1 t v q o.pass).1, qs.set i (stepQ1 t v q o.pass).2)) := by
  unfold stepQ1
  by_cases hr : q.read = true
  · rw [if_pos hr]
    by_cases hv : v = q.old
    · rw [if_pos hv]
      exact qend_hit w x g cap t v qs i q k o hof ho hoo hoc hQ hi hov hd hr hcap htr hv
    · rw [if_neg hv]
      exact qend_miss w x g cap t v qs i q k o hof ho hoo hoc hQ hi hov hd hr hcap htr hv
  · rw [if_neg hr]
    have hr : q.read = false := by simpa using hr
    by_cases hv : (doesQ t v q o.pass).1 = v
    · rw [if_pos hv]
      exact qend_read w x g cap t v qs i q k o hof ho hoo hoc hQ hi hov hd hr hcap hv
    · rw [if_neg hv]
      exact qend_note w x g cap t v qs i q k o hof ho hoo hoc hQ hi hov hd hr hcap hv

/-- A step of the document's, whatever the call. -/
theorem qstep_any (w : World) (x g cap : Nat) (t : T) (v : V) (qs : List Q) (i : Nat) (hQ : QRace w x g cap t v qs) (hcap : qs.length ≤ 8796093022208) (hi : i < qs.length)
    (hok : ∀ q, qs[i]? = some q → (q.done = true → 0 ≤ q.of_ ∧ q.of_ < i) ∧ 0 ≤ q.tries ∧ q.tries ≤ 4611686018427387904) :
    Calls Try.prog 47 #[.pointer (some ⟨x, 0, none⟩), .int .i64 i] w (QPost w x g cap t (stepQ t (v, qs) i)) := by
  have hq : qs[i]? = some qs[i] := List.getElem?_eq_getElem hi
  obtain ⟨h1, h2⟩ := hok _ hq
  unfold stepQ
  simp only [hq]
  generalize qs[i] = q at *
  by_cases hov : q.over = true
  · rw [if_pos hov]
    exact qstep_over w x g cap t v qs i q hQ hq hov
  · rw [if_neg hov]
    have hov : q.over = false := by simpa using hov
    by_cases hd : q.done = true
    · rw [if_pos hd]
      obtain ⟨ha, hb⟩ := h1 hd
      obtain ⟨k, hk⟩ := Int.eq_ofNat_of_zero_le ha
      have hkl : k < qs.length := by omega
      have hkk : q.of_.toNat = k := by omega
      have ho : qs[k]? = some qs[k] := List.getElem?_eq_getElem hkl
      rw [hkk]
      simp only [ho]
      generalize qs[k] = o at *
      by_cases hoo : o.over = true
      · rw [if_pos hoo]
        by_cases hz : o.code = 0
        · rw [if_pos hz]
          exact qgo_end w x g cap t v qs i q k o hk ho hoo hz hQ hq hov hd hcap h2
        · rw [if_neg hz]
          exact qstep_cut w x g cap t v qs i k q o hQ hq hov hd hk ho hoo (by simp [hz])
      · rw [if_neg hoo]
        exact qstep_wait w x g cap t v qs i k q o hQ hq hov hd hk ho (by simpa using hoo)
    · rw [if_neg hd]
      exact qgo w x g cap t v qs i q hQ hq hov (by simpa using hd) hcap h2

/-- The document's race, told by the program's state. -/
def RaceS (w : World) (x g cap : Nat) (t : T) (s : V × List R) : Prop := ∃ qs, QRace w x g cap t s.1 qs ∧ Sims t s.2 qs

def RPost (w : World) (x g cap : Nat) (t : T) (s : V × List R) (e : Ending) (w' : World) : Prop := (∃ b, e = .returned (.bool b)) ∧ RaceS w' x g cap t s ∧ Chg [x, g] w w'

theorem rstep_any {cs : Nat → Cl} {len : Nat} {n : Int} (w : World) (x g cap : Nat) (t : T) (s : V × List R) (i : Int) (h : RaceS w x g cap t s) (hI : Inv cs len n s.2) (hlen : len ≤ 8796093022208) (hn : n ≤ 4611686018427387904) :
    Calls Try.prog 47 #[.pointer (some ⟨x, 0, none⟩), .int .i64 i] w (RPost w x g cap t (stepAt t s i)) := by
  obtain ⟨qs, hQ, hS⟩ := h
  have hql : qs.length = len := by rw [← hS.len]; exact hI.len
  by_cases hi : 0 ≤ i ∧ i < (qs.length : Int)
  · obtain ⟨h0, h1⟩ := hi
    obtain ⟨k, rfl⟩ := Int.eq_ofNat_of_zero_le h0
    have hkl : k < qs.length := by omega
    refine (qstep_any w x g cap t s.1 qs k hQ (by omega) hkl ?_).mono ?_
    · intro q hq
      have hr : s.2[k]? = some (s.2[k]'(by rw [hS.len]; exact hkl)) := List.getElem?_eq_getElem _
      have hs := hS.all k _ q hr hq
      obtain ⟨a, b, c⟩ := hI.ok k _ hr
      rw [hs.done, hs.of_] at a
      rw [hs.rt] at b c
      exact ⟨a, b, by omega⟩
    · rintro e w' ⟨hb, hq, hc⟩
      obtain ⟨e1, e2⟩ := take_sim (v := s.1) hS k
      refine ⟨hb, ⟨(stepQ t (s.1, qs) k).2, ?_, ?_⟩, hc⟩
      · unfold stepAt
        rw [if_pos (by omega), Int.toNat_natCast]
        have : (takeR t s k).1 = (stepQ t (s.1, qs) k).1 := e1
        rw [this]
        exact hq
      · unfold stepAt
        rw [if_pos (by omega), Int.toNat_natCast]
        exact e2
  · refine (qstep_out w x g cap t s.1 qs i hQ (by omega)).mono ?_
    rintro e w' ⟨hb, hq, hc⟩
    have hst : stepAt t s i = s := by
      unfold stepAt
      split
      · unfold takeR
        rw [List.getElem?_eq_none (by rw [hS.len]; omega)]
      · rfl
    rw [hst]
    exact ⟨hb, ⟨qs, hq, hS⟩, hc⟩
end Go.Proofs.Ythbeednmekajaaa
