import Derived.Test.YthbeednmekajaaaOrd2
import Derived.Test.YthbeednmekajaaaRam2
namespace Go.Proofs.Ythbeednmekajaaa
open Go.RowKit

/-- A race that is stepped by hand: y holds it. -/
structure Hand (w : World) (y x g cap : Nat) (t : T) (s : V × List R) : Prop where
  b : Blk w y 145 #[.pointer (some ⟨x, 0, none⟩)]
  r : RaceS w x g cap t s
  ne : y ≠ g
  nx : y ≠ x

theorem Hand.chg {w w' : World} {y x g cap : Nat} {t : T} {s : V × List R} {S : List Nat} (h : Hand w y x g cap t s) (hc : Chg S w w') (hy : y ∉ S) (hx : x ∉ S) (hg : g ∉ S) : Hand w' y x g cap t s :=
  ⟨h.b.chg hc hy, h.r.chg hc hx hg, h.ne, h.nx⟩

theorem RaceS.over {w : World} {x g cap : Nat} {t : T} {s : V × List R} {cs : Nat → Cl} {len : Nat} {m : Int} (h : RaceS w x g cap t s) (hI : Inv cs len m s.2) {i : Nat} (hi : i < len) :
    w.cell? ⟨x, 7, none⟩ = some (.slice (some ⟨g, 0, none⟩) len cap) ∧ w.cell? ⟨g, i * 17 + 16, none⟩ = some (.bool (overAt s.2 i)) := by
  have hr : s.2[i]? = some (s.2[i]'(by rw [hI.len]; exact hi)) := List.getElem?_eq_getElem _
  obtain ⟨r7, c16, _⟩ := h.seen hI hr
  refine ⟨r7, ?_⟩
  rw [c16]
  unfold overAt
  rw [hr]

set_option maxRecDepth 100000 in
set_option maxHeartbeats 1000000 in
theorem over_any {cs : Nat → Cl} {len : Nat} {m : Int} (w : World) (y x g cap : Nat) (t : T) (s : V × List R) (i : Nat) (h : Hand w y x g cap t s) (hI : Inv cs len m s.2) (hi : i < len) (_hlen : len ≤ 1000) :
    Calls Try.prog 51 #[.pointer (some ⟨y, 0, none⟩), .int .i64 i] w fun e w' => e = .returned (.bool (overAt s.2 i)) ∧ Chg [] w w' := by
  obtain ⟨r7, c16⟩ := h.r.over hI hi
  have y0 := h.b.cell 0
  simp at y0
  have hil : (i : Int) < (len : Int) := by omega
  have H := Lib.hid h; have HI := Lib.hid hI
  clear h hI
  go_enter Try.func51, Try.ntmps51
  go_wp2_with fail
  go_ret
  exact ⟨rfl, Chg.refl _ _⟩

/-- Does a number of the schedule end its call? -/
def endsAt (t : T) (len : Nat) (s : V × List R) (i : Int) : Bool := decide (0 ≤ i) && decide (i < len) && !overAt s.2 i.toNat && overAt (stepAt t s i).2 i.toNat

def StepPost2 (w : World) (y x g cap : Nat) (t : T) (len : Nat) (s : V × List R) (i : Int) (e : Ending) (w' : World) : Prop :=
  e = .returned (.bool (endsAt t len s i)) ∧ Hand w' y x g cap t (stepAt t s i) ∧ Chg [x, g] w w'

set_option maxRecDepth 100000 in
set_option maxHeartbeats 1000000 in
theorem hand_any {cs : Nat → Cl} {len : Nat} {m : Int} (w : World) (y x g cap : Nat) (t : T) (s : V × List R) (i : Int) (h : Hand w y x g cap t s) (hI : Inv cs len m s.2) (hlen : len ≤ 1000) (hm : m ≤ 4611686018427387904) :
    Calls Try.prog 50 #[.pointer (some ⟨y, 0, none⟩), .int .i64 i] w (StepPost2 w y x g cap t len s i) := by
  have y0 := h.b.cell 0
  simp at y0
  have r7 : w.cell? ⟨x, 7, none⟩ = some (if len = 0 then .slice none 0 0 else .slice (some ⟨g, 0, none⟩) len cap) := by
    obtain ⟨qs, hQ, hS⟩ := h.r
    have hl : qs.length = len := by rw [← hS.len]; exact hI.len
    have := hQ.blk.cell 7
    rw [hl] at this
    exact this
  by_cases hi : 0 ≤ i ∧ i < (len : Int)
  · obtain ⟨h0, h1⟩ := hi
    obtain ⟨k, rfl⟩ := Int.eq_ofNat_of_zero_le h0
    have hk : k < len := by omega
    have c16 := (h.r.over hI hk).2
    rw [if_neg (by omega)] at r7
    have hst : stepAt t s (k : Int) = takeR t s k := by unfold stepAt; rw [if_pos h0, Int.toNat_natCast]
    have he : endsAt t len s (k : Int) = (!overAt s.2 k && overAt (takeR t s k).2 k) := by
      unfold endsAt
      rw [hst, Int.toNat_natCast]
      simp [hk]
    unfold StepPost2
    rw [he, hst]
    cases ho : overAt s.2 k
    · rw [ho] at c16
      simp only [Bool.not_false, Bool.true_and]
      have H := Lib.hid h; have HI := Lib.hid hI; have HST := Lib.hid hst
      clear h hI he hst h0 ho
      go_enter Try.func50, Try.ntmps50
      go_wp2_with fail
      refine (rstep_any _ x g cap t s (k : Int) H.out.r HI.out (by omega) hm).mono ?_
      rw [HST.out]
      rintro e w' ⟨⟨b, rfl⟩, hS1, hC1⟩
      have hI1 : Inv cs len (m + 1) (takeR t s k).2 := HI.out.take (v := s.1) k
      obtain ⟨r71, c161⟩ := hS1.over hI1 hk
      have hyn : y ∉ ([x, g] : List Nat) := by simp; exact ⟨H.out.nx, H.out.ne⟩
      have y01 := (H.out.b.chg hC1 hyn).cell 0
      simp at y01
      have HP : Hid (Hand w' y x g cap t (takeR t s k)) := ⟨H.out.b.chg hC1 hyn, hS1, H.out.ne, H.out.nx⟩
      have HC1 := Lib.hid hC1
      clear hS1 hC1 hI1 hyn
      go_wp2_with fail
      go_ret
      exact ⟨rfl, HP.out, HC1.out⟩
    · rw [ho] at c16
      have hid : takeR t s k = s := by
        have hr : s.2[k]? = some (s.2[k]'(by rw [hI.len]; exact hk)) := List.getElem?_eq_getElem _
        unfold overAt at ho
        rw [hr] at ho
        exact takeR_over hr ho
      rw [hid]
      simp only [Bool.not_true, Bool.false_and]
      have H := Lib.hid h
      clear h hI he hst h0 ho hid
      go_enter Try.func50, Try.ntmps50
      go_wp2_with fail
      go_ret
      exact ⟨rfl, H.out, Chg.refl _ _⟩
  · have hid : stepAt t s i = s := by
      unfold stepAt
      split
      · unfold takeR
        rw [List.getElem?_eq_none (by rw [hI.len]; omega)]
      · rfl
    have he : endsAt t len s i = false := by
      unfold endsAt
      by_cases h0 : 0 ≤ i
      · have : ¬ i < (len : Int) := fun h1 => hi ⟨h0, h1⟩
        simp [this]
      · simp [h0]
    unfold StepPost2
    rw [he, hid]
    have H := Lib.hid h
    by_cases h0 : i < 0
    · clear h hI he hid hi r7
      go_enter Try.func50, Try.ntmps50
      go_wp2_with fail
      go_ret
      exact ⟨rfl, H.out, Chg.refl _ _⟩
    · have h1 : (len : Int) ≤ i := by omega
      have h0' : (0 : Int) ≤ i := by omega
      by_cases hz : len = 0
      · rw [if_pos hz] at r7
        clear h hI he hid hi
        go_enter Try.func50, Try.ntmps50
        go_wp2_with fail
        go_ret
        exact ⟨rfl, H.out, Chg.refl _ _⟩
      · rw [if_neg hz] at r7
        clear h hI he hid hi hz
        go_enter Try.func50, Try.ntmps50
        go_wp2_with fail
        go_ret
        exact ⟨rfl, H.out, Chg.refl _ _⟩
end Go.Proofs.Ythbeednmekajaaa
