import Derived.Test.YthbeednmekajaaaBrk1
namespace Go.Proofs.Ythbeednmekajaaa
open Go.RowKit

def AllowPost (t : T) (v : V) (now : Int) (w : World) (e : Ending) (w' : World) : Prop :=
  e = .returned (.tuple #[.agg #[.int .u8 (allowV t v now).1.st, .int .i64 (allowV t v now).1.turn, .int .i64 (allowV t v now).1.fails, .int .i64 (allowV t v now).1.at_], .int .i64 (allowV t v now).2.1, .int .i64 (allowV t v now).2.2]) ∧ Chg [] w w'

set_option maxHeartbeats 2000000 in
theorem allow_any (t : T) (v : V) (now : Int) (w : World) (ht : TOk t = true) (h : VOk v) (hn : tickB now = true) :
    Calls Try.prog 80 #[.agg #[.int .i64 t.F, .int .i64 t.W, .int .i64 t.S], .agg #[.int .u8 v.st, .int .i64 v.turn, .int .i64 v.fails, .int .i64 v.at_], .int .i64 now] w (AllowPost t v now w) := by
  have H := Lib.hid h
  obtain ⟨b1, b2, b3, b4, b5, b6, b7, b8⟩ := h
  simp only [TOk, tickB, decide_eq_true_eq] at ht hn
  obtain ⟨p1, p2, p3, p4, p5, p6⟩ := ht
  obtain ⟨n0, n1⟩ := hn
  by_cases h0 : v.st = 0
  · have hs : allowV t v now = (v, v.turn + 1, 0) := by unfold allowV; rw [if_pos h0]
    have hp : ∀ e w', AllowPost t v now w e w' = (e = .returned (.tuple #[.agg #[.int .u8 v.st, .int .i64 v.turn, .int .i64 v.fails, .int .i64 v.at_], .int .i64 (v.turn + 1), .int .i64 0]) ∧ Chg [] w w') := by intro e w'; unfold AllowPost; rw [hs]
    have HP := Lib.hid hp
    have d0 : (v.st == 0) = true := by rw [beq_iff_eq]; exact h0
    clear h0 hs hp
    go_enter Try.func80, Try.ntmps80
    go_wp2_with fail
    go_region
    all_goals go_wp2_with fail
    all_goals
      exact bodyPost_ret (v := .tuple #[.agg #[.int .u8 v.st, .int .i64 v.turn, .int .i64 v.fails, .int .i64 v.at_], .int .i64 (v.turn + 1), .int .i64 0]) (by simp [results, Try.results80, go_sem]) rfl
        (by rw [HP.out]; refine ⟨rfl, ?_⟩; repeat (with_reducible first | exact Chg.refl _ _ | refine Chg.drew ?_ | refine Chg.drewN ?_ _ | refine Chg.alloc ?_ _ | refine Chg.setCell ?_ (Or.inr (by dsimp only; omega)) _))
  have d0 : (v.st == 0) = false := by rw [beq_eq_false_iff_ne]; exact h0
  have refuse : (∀ e w', AllowPost t v now w e w' = (e = .returned (.tuple #[.agg #[.int .u8 v.st, .int .i64 v.turn, .int .i64 v.fails, .int .i64 v.at_], .int .i64 0, .int .i64 250]) ∧ Chg [] w w')) ∨ (v.st = 1 ∧ v.at_ + t.W ≤ now ∧ v.turn < 1048575) := by
    by_cases hc : v.st = 1 ∧ v.at_ + t.W ≤ now ∧ v.turn < 1048575
    · exact .inr hc
    · refine .inl fun e w' => ?_
      have hs : allowV t v now = (v, 0, 250) := by unfold allowV; rw [if_neg h0, if_neg hc]
      unfold AllowPost; rw [hs]
  rcases refuse with hp | ⟨h1, h2, h3⟩
  · by_cases hc : v.st = 1 ∧ v.at_ + t.W ≤ now ∧ v.turn < 1048575
    · have hs : allowV t v now = (⟨2, v.turn + 1, 0, 0⟩, v.turn + 2, 0) := by unfold allowV; rw [if_neg h0, if_pos hc]
      have := (hp (.returned (.tuple #[.agg #[.int .u8 v.st, .int .i64 v.turn, .int .i64 v.fails, .int .i64 v.at_], .int .i64 0, .int .i64 250])) w).mpr ⟨rfl, Chg.refl _ _⟩
      unfold AllowPost at this
      rw [hs] at this
      simp at this
    · have HP := Lib.hid hp
      clear hp
      by_cases h1 : v.st = 1
      · have d1 : (v.st == 1) = true := by rw [beq_iff_eq]; exact h1
        by_cases h2 : v.at_ + t.W ≤ now
        · have h3 : ¬ v.turn < 1048575 := fun h3 => hc ⟨h1, h2, h3⟩
          clear h1 hc h0
          go_enter Try.func80, Try.ntmps80
          go_wp2_with fail
          exact bodyPost_ret (v := .tuple #[.agg #[.int .u8 v.st, .int .i64 v.turn, .int .i64 v.fails, .int .i64 v.at_], .int .i64 0, .int .i64 250]) (by simp [results, Try.results80, go_sem]) rfl
            (by rw [HP.out]; exact ⟨rfl, (((Chg.refl _ _).alloc _).alloc _).alloc _⟩)
        · clear h1 hc h0
          go_enter Try.func80, Try.ntmps80
          go_wp2_with fail
          exact bodyPost_ret (v := .tuple #[.agg #[.int .u8 v.st, .int .i64 v.turn, .int .i64 v.fails, .int .i64 v.at_], .int .i64 0, .int .i64 250]) (by simp [results, Try.results80, go_sem]) rfl
            (by rw [HP.out]; exact ⟨rfl, (((Chg.refl _ _).alloc _).alloc _).alloc _⟩)
      · have d1 : (v.st == 1) = false := by rw [beq_eq_false_iff_ne]; exact h1
        clear h1 hc h0
        go_enter Try.func80, Try.ntmps80
        go_wp2_with fail
        exact bodyPost_ret (v := .tuple #[.agg #[.int .u8 v.st, .int .i64 v.turn, .int .i64 v.fails, .int .i64 v.at_], .int .i64 0, .int .i64 250]) (by simp [results, Try.results80, go_sem]) rfl
          (by rw [HP.out]; exact ⟨rfl, (((Chg.refl _ _).alloc _).alloc _).alloc _⟩)
  · have hs : allowV t v now = (⟨2, v.turn + 1, 0, 0⟩, v.turn + 2, 0) := by unfold allowV; rw [if_neg h0, if_pos ⟨h1, h2, h3⟩]
    have hp : ∀ e w', AllowPost t v now w e w' = (e = .returned (.tuple #[.agg #[.int .u8 2, .int .i64 (v.turn + 1), .int .i64 0, .int .i64 0], .int .i64 (v.turn + 2), .int .i64 0]) ∧ Chg [] w w') := by intro e w'; unfold AllowPost; rw [hs]
    have HP := Lib.hid hp
    have d1 : (v.st == 1) = true := by rw [beq_iff_eq]; exact h1
    clear h0 hs hp h1
    have H3 := Lib.hid h3
    go_enter Try.func80, Try.ntmps80
    go_wp2_with fail
    refine (turned_lt v _ _ _ H.out H3.out).mono ?_
    rintro e w1 ⟨rfl, hc1⟩
    have hb1 : Blk w1 (w.heap.size + 1) 56 _ := ((Blk.new' (w.alloc _) _ _ _ (by simp)).alloc _).chg hc1 (by simp)
    have hb2 : Blk w1 (w.heap.size + 1 + 1) 56 _ := (Blk.new' ((w.alloc _).alloc _) _ _ _ (by simp)).chg hc1 (by simp)
    obtain ⟨⟨c0, c1, c2, c3⟩, f0, f1, f2, f3⟩ := hb1.four
    obtain ⟨⟨e0, e1, e2, e3⟩, g0, g1, g2, g3⟩ := hb2.four
    have hsz := hc1.size
    simp only [World.size_alloc] at hsz
    have HC := Lib.hid (((((Chg.refl [] w).alloc _).alloc _).alloc _).trans hc1)
    clear hb1 hb2 hc1
    go_wp2_with fail
    go_region
    all_goals go_wp2_with fail
    all_goals
      exact bodyPost_ret (v := .tuple #[.agg #[.int .u8 2, .int .i64 (v.turn + 1), .int .i64 0, .int .i64 0], .int .i64 (v.turn + 2), .int .i64 0]) (by simp [results, Try.results80, go_sem]; go_simp; try omega) rfl
        (by rw [HP.out]; refine ⟨rfl, ?_⟩; repeat (with_reducible first | exact HC.out | refine Chg.drew ?_ | refine Chg.drewN ?_ _ | refine Chg.alloc ?_ _ | refine Chg.setCell ?_ (Or.inr (by dsimp only; omega)) _))

set_option maxHeartbeats 2000000 in
theorem rallow_any (t : T) (v : V) (now : Int) (w : World) (ht : TOk t = true) (h : VOk v) (hn : tickB now = true) :
    Calls Try.prog 42 #[.agg #[.int .i64 t.F, .int .i64 t.W, .int .i64 t.S], .agg #[.int .u8 v.st, .int .i64 v.turn, .int .i64 v.fails, .int .i64 v.at_], .int .i64 now] w (AllowPost t v now w) := by
  have H := Lib.hid h
  obtain ⟨b1, b2, b3, b4, b5, b6, b7, b8⟩ := h
  simp only [TOk, tickB, decide_eq_true_eq] at ht hn
  obtain ⟨p1, p2, p3, p4, p5, p6⟩ := ht
  obtain ⟨n0, n1⟩ := hn
  by_cases h0 : v.st = 0
  · have hs : allowV t v now = (v, v.turn + 1, 0) := by unfold allowV; rw [if_pos h0]
    have hp : ∀ e w', AllowPost t v now w e w' = (e = .returned (.tuple #[.agg #[.int .u8 v.st, .int .i64 v.turn, .int .i64 v.fails, .int .i64 v.at_], .int .i64 (v.turn + 1), .int .i64 0]) ∧ Chg [] w w') := by intro e w'; unfold AllowPost; rw [hs]
    have HP := Lib.hid hp
    have d0 : (v.st == 0) = true := by rw [beq_iff_eq]; exact h0
    clear h0 hs hp
    go_enter Try.func42, Try.ntmps42
    go_wp2_with fail
    go_region
    all_goals go_wp2_with fail
    all_goals
      exact bodyPost_ret (v := .tuple #[.agg #[.int .u8 v.st, .int .i64 v.turn, .int .i64 v.fails, .int .i64 v.at_], .int .i64 (v.turn + 1), .int .i64 0]) (by simp [results, Try.results42, go_sem]) rfl
        (by rw [HP.out]; refine ⟨rfl, ?_⟩; repeat (with_reducible first | exact Chg.refl _ _ | refine Chg.drew ?_ | refine Chg.drewN ?_ _ | refine Chg.alloc ?_ _ | refine Chg.setCell ?_ (Or.inr (by dsimp only; omega)) _))
  have d0 : (v.st == 0) = false := by rw [beq_eq_false_iff_ne]; exact h0
  have refuse : (∀ e w', AllowPost t v now w e w' = (e = .returned (.tuple #[.agg #[.int .u8 v.st, .int .i64 v.turn, .int .i64 v.fails, .int .i64 v.at_], .int .i64 0, .int .i64 250]) ∧ Chg [] w w')) ∨ (v.st = 1 ∧ v.at_ + t.W ≤ now ∧ v.turn < 1048575) := by
    by_cases hc : v.st = 1 ∧ v.at_ + t.W ≤ now ∧ v.turn < 1048575
    · exact .inr hc
    · refine .inl fun e w' => ?_
      have hs : allowV t v now = (v, 0, 250) := by unfold allowV; rw [if_neg h0, if_neg hc]
      unfold AllowPost; rw [hs]
  rcases refuse with hp | ⟨h1, h2, h3⟩
  · by_cases hc : v.st = 1 ∧ v.at_ + t.W ≤ now ∧ v.turn < 1048575
    · have hs : allowV t v now = (⟨2, v.turn + 1, 0, 0⟩, v.turn + 2, 0) := by unfold allowV; rw [if_neg h0, if_pos hc]
      have := (hp (.returned (.tuple #[.agg #[.int .u8 v.st, .int .i64 v.turn, .int .i64 v.fails, .int .i64 v.at_], .int .i64 0, .int .i64 250])) w).mpr ⟨rfl, Chg.refl _ _⟩
      unfold AllowPost at this
      rw [hs] at this
      simp at this
    · have HP := Lib.hid hp
      clear hp
      by_cases h1 : v.st = 1
      · have d1 : (v.st == 1) = true := by rw [beq_iff_eq]; exact h1
        by_cases h2 : v.at_ + t.W ≤ now
        · have h3 : ¬ v.turn < 1048575 := fun h3 => hc ⟨h1, h2, h3⟩
          clear h1 hc h0
          go_enter Try.func42, Try.ntmps42
          go_wp2_with fail
          exact bodyPost_ret (v := .tuple #[.agg #[.int .u8 v.st, .int .i64 v.turn, .int .i64 v.fails, .int .i64 v.at_], .int .i64 0, .int .i64 250]) (by simp [results, Try.results42, go_sem]) rfl
            (by rw [HP.out]; exact ⟨rfl, (((Chg.refl _ _).alloc _).alloc _).alloc _⟩)
        · clear h1 hc h0
          go_enter Try.func42, Try.ntmps42
          go_wp2_with fail
          exact bodyPost_ret (v := .tuple #[.agg #[.int .u8 v.st, .int .i64 v.turn, .int .i64 v.fails, .int .i64 v.at_], .int .i64 0, .int .i64 250]) (by simp [results, Try.results42, go_sem]) rfl
            (by rw [HP.out]; exact ⟨rfl, (((Chg.refl _ _).alloc _).alloc _).alloc _⟩)
      · have d1 : (v.st == 1) = false := by rw [beq_eq_false_iff_ne]; exact h1
        clear h1 hc h0
        go_enter Try.func42, Try.ntmps42
        go_wp2_with fail
        exact bodyPost_ret (v := .tuple #[.agg #[.int .u8 v.st, .int .i64 v.turn, .int .i64 v.fails, .int .i64 v.at_], .int .i64 0, .int .i64 250]) (by simp [results, Try.results42, go_sem]) rfl
          (by rw [HP.out]; exact ⟨rfl, (((Chg.refl _ _).alloc _).alloc _).alloc _⟩)
  · have hs : allowV t v now = (⟨2, v.turn + 1, 0, 0⟩, v.turn + 2, 0) := by unfold allowV; rw [if_neg h0, if_pos ⟨h1, h2, h3⟩]
    have hp : ∀ e w', AllowPost t v now w e w' = (e = .returned (.tuple #[.agg #[.int .u8 2, .int .i64 (v.turn + 1), .int .i64 0, .int .i64 0], .int .i64 (v.turn + 2), .int .i64 0]) ∧ Chg [] w w') := by intro e w'; unfold AllowPost; rw [hs]
    have HP := Lib.hid hp
    have d1 : (v.st == 1) = true := by rw [beq_iff_eq]; exact h1
    clear h0 hs hp h1
    have H3 := Lib.hid h3
    go_enter Try.func42, Try.ntmps42
    go_wp2_with fail
    refine (moved_lt v _ _ _ H.out H3.out).mono ?_
    rintro e w1 ⟨rfl, hc1⟩
    have hb1 : Blk w1 (w.heap.size + 1) 49 _ := ((Blk.new' (w.alloc _) _ _ _ (by simp)).alloc _).chg hc1 (by simp)
    have hb2 : Blk w1 (w.heap.size + 1 + 1) 49 _ := (Blk.new' ((w.alloc _).alloc _) _ _ _ (by simp)).chg hc1 (by simp)
    obtain ⟨⟨c0, c1, c2, c3⟩, f0, f1, f2, f3⟩ := hb1.four
    obtain ⟨⟨e0, e1, e2, e3⟩, g0, g1, g2, g3⟩ := hb2.four
    have hsz := hc1.size
    simp only [World.size_alloc] at hsz
    have HC := Lib.hid (((((Chg.refl [] w).alloc _).alloc _).alloc _).trans hc1)
    clear hb1 hb2 hc1
    go_wp2_with fail
    go_region
    all_goals go_wp2_with fail
    all_goals
      exact bodyPost_ret (v := .tuple #[.agg #[.int .u8 2, .int .i64 (v.turn + 1), .int .i64 0, .int .i64 0], .int .i64 (v.turn + 2), .int .i64 0]) (by simp [results, Try.results42, go_sem]; go_simp; try omega) rfl
        (by rw [HP.out]; refine ⟨rfl, ?_⟩; repeat (with_reducible first | exact HC.out | refine Chg.drew ?_ | refine Chg.drewN ?_ _ | refine Chg.alloc ?_ _ | refine Chg.setCell ?_ (Or.inr (by dsimp only; omega)) _))
end Go.Proofs.Ythbeednmekajaaa
