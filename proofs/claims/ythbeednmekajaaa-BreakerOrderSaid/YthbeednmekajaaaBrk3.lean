import Derived.Test.YthbeednmekajaaaBrk2
namespace Go.Proofs.Ythbeednmekajaaa
open Go.RowKit

def RetPost (r : V × Int) (w : World) (e : Ending) (w' : World) : Prop :=
  e = .returned (.tuple #[.agg #[.int .u8 r.1.st, .int .i64 r.1.turn, .int .i64 r.1.fails, .int .i64 r.1.at_], .int .i64 r.2]) ∧ Chg [] w w'

set_option maxHeartbeats 4000000 in
theorem done_any (t : T) (v : V) (pass : Int) (ok : Bool) (now : Int) (w : World) (ht : TOk t = true) (h : VOk v) (hn : tickB now = true) :
    Calls Try.prog 79 #[.agg #[.int .i64 t.F, .int .i64 t.W, .int .i64 t.S], .agg #[.int .u8 v.st, .int .i64 v.turn, .int .i64 v.fails, .int .i64 v.at_], .int .i64 pass, .bool ok, .int .i64 now] w (RetPost (doneV t v pass ok now) w) := by
  have H := Lib.hid h
  obtain ⟨b1, b2, b3, b4, b5, b6, b7, b8⟩ := h
  simp only [TOk, tickB, decide_eq_true_eq] at ht hn
  obtain ⟨p1, p2, p3, p4, p5, p6⟩ := ht
  obtain ⟨n0, n1⟩ := hn
  have q0 : 0 ≤ now / t.S := Int.ediv_nonneg n0 (by omega)
  have q1 : now / t.S ≤ 2147483647 := Int.le_trans (Int.ediv_le_self _ n0) n1
  by_cases hp : pass = v.turn + 1
  · have dp : (pass != v.turn + 1) = false := by simp [hp]
    by_cases h1 : v.st = 1
    · have hs : doneV t v pass ok now = (v, 251) := by unfold doneV; rw [if_pos (.inr h1)]
      rw [hs]
      have d1 : (v.st == 1) = true := by rw [beq_iff_eq]; exact h1
      clear hs h1 hp
      go_enter Try.func79, Try.ntmps79
      go_wp2_with fail
      exact bodyPost_ret (v := .tuple #[.agg #[.int .u8 v.st, .int .i64 v.turn, .int .i64 v.fails, .int .i64 v.at_], .int .i64 251]) (by simp only [results, Try.results79]; go_simp) rfl (by unfold RetPost; refine ⟨rfl, ?_⟩; repeat (with_reducible first | exact Chg.refl _ _ | refine Chg.drew ?_ | refine Chg.drewN ?_ _ | refine Chg.alloc ?_ _ | refine Chg.setCell ?_ (Or.inr (by dsimp only; omega)) _))
    have d1 : (v.st == 1) = false := by rw [beq_eq_false_iff_ne]; exact h1
    have hn1 : ¬ (¬ pass = v.turn + 1 ∨ v.st = 1) := by rintro (h | h); exact h hp; exact h1 h
    by_cases h2 : v.st = 2
    · have d2 : (v.st == 2) = true := by rw [beq_iff_eq]; exact h2
      cases ok
      · have hs : doneV t v pass false now = (turnedV v 1 now, 0) := by unfold doneV; rw [if_neg hn1, if_pos h2]; rfl
        rw [hs]
        clear hs h1 hp h2 hn1
        go_enter Try.func79, Try.ntmps79
        go_wp2_with fail
        refine (turned_any v _ _ _ H.out).mono ?_
        rintro e w1 ⟨rfl, hc1⟩
        have hb2 : Blk w1 (w.heap.size + 1 + 1) 56 _ := (Blk.new' ((w.alloc _).alloc _) _ _ _ (by simp)).chg hc1 (by simp)
        obtain ⟨⟨e0, e1, e2, e3⟩, g0, g1, g2, g3⟩ := hb2.four
        have hsz := hc1.size
        simp only [World.size_alloc] at hsz
        have HC := Lib.hid (((((Chg.refl [] w).alloc _).alloc _).alloc _).trans hc1)
        clear hb2 hc1
        go_wp2_with fail
        exact bodyPost_ret (v := .tuple #[.agg #[.int .u8 (turnedV v 1 now).st, .int .i64 (turnedV v 1 now).turn, .int .i64 (turnedV v 1 now).fails, .int .i64 (turnedV v 1 now).at_], .int .i64 0]) (by simp only [results, Try.results79]; go_simp) rfl (by unfold RetPost; refine ⟨rfl, ?_⟩; repeat (with_reducible first | exact HC.out | refine Chg.drew ?_ | refine Chg.drewN ?_ _ | refine Chg.alloc ?_ _ | refine Chg.setCell ?_ (Or.inr (by dsimp only; omega)) _))
      · have hs : doneV t v pass true now = (turnedV v 0 (now / t.S), 0) := by unfold doneV; rw [if_neg hn1, if_pos h2]; rfl
        rw [hs]
        clear hs h1 hp h2 hn1
        go_enter Try.func79, Try.ntmps79
        go_wp2_with fail
        refine (turned_any v _ _ _ H.out).mono ?_
        rintro e w1 ⟨rfl, hc1⟩
        have hb2 : Blk w1 (w.heap.size + 1 + 1) 56 _ := (Blk.new' ((w.alloc _).alloc _) _ _ _ (by simp)).chg hc1 (by simp)
        obtain ⟨⟨e0, e1, e2, e3⟩, g0, g1, g2, g3⟩ := hb2.four
        have hsz := hc1.size
        simp only [World.size_alloc] at hsz
        have HC := Lib.hid (((((Chg.refl [] w).alloc _).alloc _).alloc _).trans hc1)
        clear hb2 hc1
        go_wp2_with fail
        exact bodyPost_ret (v := .tuple #[.agg #[.int .u8 (turnedV v 0 (now / t.S)).st, .int .i64 (turnedV v 0 (now / t.S)).turn, .int .i64 (turnedV v 0 (now / t.S)).fails, .int .i64 (turnedV v 0 (now / t.S)).at_], .int .i64 0]) (by simp only [results, Try.results79]; go_simp) rfl (by unfold RetPost; refine ⟨rfl, ?_⟩; repeat (with_reducible first | exact HC.out | refine Chg.drew ?_ | refine Chg.drewN ?_ _ | refine Chg.alloc ?_ _ | refine Chg.setCell ?_ (Or.inr (by dsimp only; omega)) _))
    have d2 : (v.st == 2) = false := by rw [beq_eq_false_iff_ne]; exact h2
    cases ok
    · have ho : ∀ c : Prop, (¬ (false = true ∨ c)) ↔ ¬ c := fun c => by simp
      by_cases h3 : now / t.S < v.at_
      · have hs : doneV t v pass false now = (v, 0) := by unfold doneV; rw [if_neg hn1, if_neg h2, if_pos (.inr h3)]
        rw [hs]
        clear hs h1 hp h2 hn1 ho
        go_enter Try.func79, Try.ntmps79
        go_wp2_with fail
        exact bodyPost_ret (v := .tuple #[.agg #[.int .u8 v.st, .int .i64 v.turn, .int .i64 v.fails, .int .i64 v.at_], .int .i64 0]) (by simp only [results, Try.results79]; go_simp) rfl (by unfold RetPost; refine ⟨rfl, ?_⟩; repeat (with_reducible first | exact Chg.refl _ _ | refine Chg.drew ?_ | refine Chg.drewN ?_ _ | refine Chg.alloc ?_ _ | refine Chg.setCell ?_ (Or.inr (by dsimp only; omega)) _))
      · by_cases h4 : v.at_ < now / t.S
        · by_cases h5 : t.F ≤ 0 + 1
          · have hs : doneV t v pass false now = (turnedV v 1 now, 0) := by unfold doneV; rw [if_neg hn1, if_neg h2, if_neg ((ho _).mpr h3), if_pos h4, if_pos h5]
            rw [hs]
            clear hs h1 hp h2 hn1 ho
            go_enter Try.func79, Try.ntmps79
            go_wp2_with fail
            refine (turned_any v _ _ _ H.out).mono ?_
            rintro e w1 ⟨rfl, hc1⟩
            have hb2 : Blk w1 (w.heap.size + 1 + 1) 56 _ := ((Blk.new' ((w.alloc _).alloc _) _ _ _ (by simp)).alloc _).chg hc1 (by simp)
            obtain ⟨⟨e0, e1, e2, e3⟩, g0, g1, g2, g3⟩ := hb2.four
            have hsz := hc1.size
            simp only [World.size_alloc] at hsz
            have HC := Lib.hid ((((((Chg.refl [] w).alloc _).alloc _).alloc _).alloc _).trans hc1)
            clear hb2 hc1
            go_wp2_with fail
            exact bodyPost_ret (v := .tuple #[.agg #[.int .u8 (turnedV v 1 now).st, .int .i64 (turnedV v 1 now).turn, .int .i64 (turnedV v 1 now).fails, .int .i64 (turnedV v 1 now).at_], .int .i64 0]) (by simp only [results, Try.results79]; go_simp) rfl (by unfold RetPost; refine ⟨rfl, ?_⟩; repeat (with_reducible first | exact HC.out | refine Chg.drew ?_ | refine Chg.drewN ?_ _ | refine Chg.alloc ?_ _ | refine Chg.setCell ?_ (Or.inr (by dsimp only; omega)) _))
          · have hs : doneV t v pass false now = (⟨v.st, v.turn, 0 + 1, now / t.S⟩, 0) := by unfold doneV; rw [if_neg hn1, if_neg h2, if_neg ((ho _).mpr h3), if_pos h4, if_neg h5, if_pos h4]
            rw [hs]
            clear hs h1 hp h2 hn1 ho
            go_enter Try.func79, Try.ntmps79
            go_wp2_with fail
            all_goals
              exact bodyPost_ret (v := .tuple #[.agg #[.int .u8 v.st, .int .i64 v.turn, .int .i64 (0 + 1), .int .i64 (now / t.S)], .int .i64 0]) (by simp only [results, Try.results79]; go_simp) rfl (by unfold RetPost; refine ⟨rfl, ?_⟩; repeat (with_reducible first | exact Chg.refl _ _ | refine Chg.drew ?_ | refine Chg.drewN ?_ _ | refine Chg.alloc ?_ _ | refine Chg.setCell ?_ (Or.inr (by dsimp only; omega)) _))
        · by_cases h5 : t.F ≤ v.fails + 1
          · have hs : doneV t v pass false now = (turnedV v 1 now, 0) := by unfold doneV; rw [if_neg hn1, if_neg h2, if_neg ((ho _).mpr h3), if_neg h4, if_pos h5]
            rw [hs]
            clear hs h1 hp h2 hn1 ho
            go_enter Try.func79, Try.ntmps79
            go_wp2_with fail
            refine (turned_any v _ _ _ H.out).mono ?_
            rintro e w1 ⟨rfl, hc1⟩
            have hb2 : Blk w1 (w.heap.size + 1 + 1) 56 _ := ((Blk.new' ((w.alloc _).alloc _) _ _ _ (by simp)).alloc _).chg hc1 (by simp)
            obtain ⟨⟨e0, e1, e2, e3⟩, g0, g1, g2, g3⟩ := hb2.four
            have hsz := hc1.size
            simp only [World.size_alloc] at hsz
            have HC := Lib.hid ((((((Chg.refl [] w).alloc _).alloc _).alloc _).alloc _).trans hc1)
            clear hb2 hc1
            go_wp2_with fail
            exact bodyPost_ret (v := .tuple #[.agg #[.int .u8 (turnedV v 1 now).st, .int .i64 (turnedV v 1 now).turn, .int .i64 (turnedV v 1 now).fails, .int .i64 (turnedV v 1 now).at_], .int .i64 0]) (by simp only [results, Try.results79]; go_simp) rfl (by unfold RetPost; refine ⟨rfl, ?_⟩; repeat (with_reducible first | exact HC.out | refine Chg.drew ?_ | refine Chg.drewN ?_ _ | refine Chg.alloc ?_ _ | refine Chg.setCell ?_ (Or.inr (by dsimp only; omega)) _))
          · have hs : doneV t v pass false now = (⟨v.st, v.turn, v.fails + 1, v.at_⟩, 0) := by unfold doneV; rw [if_neg hn1, if_neg h2, if_neg ((ho _).mpr h3), if_neg h4, if_neg h5, if_neg h4]
            rw [hs]
            clear hs h1 hp h2 hn1 ho
            go_enter Try.func79, Try.ntmps79
            go_wp2_with fail
            all_goals
              exact bodyPost_ret (v := .tuple #[.agg #[.int .u8 v.st, .int .i64 v.turn, .int .i64 (v.fails + 1), .int .i64 (v.at_)], .int .i64 0]) (by simp only [results, Try.results79]; go_simp) rfl (by unfold RetPost; refine ⟨rfl, ?_⟩; repeat (with_reducible first | exact Chg.refl _ _ | refine Chg.drew ?_ | refine Chg.drewN ?_ _ | refine Chg.alloc ?_ _ | refine Chg.setCell ?_ (Or.inr (by dsimp only; omega)) _))
    · have hs : doneV t v pass true now = (v, 0) := by unfold doneV; rw [if_neg hn1, if_neg h2, if_pos (.inl rfl)]
      rw [hs]
      clear hs h1 hp h2 hn1
      go_enter Try.func79, Try.ntmps79
      go_wp2_with fail
      exact bodyPost_ret (v := .tuple #[.agg #[.int .u8 v.st, .int .i64 v.turn, .int .i64 v.fails, .int .i64 v.at_], .int .i64 0]) (by simp only [results, Try.results79]; go_simp) rfl (by unfold RetPost; refine ⟨rfl, ?_⟩; repeat (with_reducible first | exact Chg.refl _ _ | refine Chg.drew ?_ | refine Chg.drewN ?_ _ | refine Chg.alloc ?_ _ | refine Chg.setCell ?_ (Or.inr (by dsimp only; omega)) _))
  · have dp : (pass != v.turn + 1) = true := by rw [bne_iff_ne]; exact hp
    have hs : doneV t v pass ok now = (v, 251) := by unfold doneV; rw [if_pos (.inl hp)]
    rw [hs]
    clear hs hp
    go_enter Try.func79, Try.ntmps79
    go_wp2_with fail
    exact bodyPost_ret (v := .tuple #[.agg #[.int .u8 v.st, .int .i64 v.turn, .int .i64 v.fails, .int .i64 v.at_], .int .i64 251]) (by simp only [results, Try.results79]; go_simp) rfl (by unfold RetPost; refine ⟨rfl, ?_⟩; repeat (with_reducible first | exact Chg.refl _ _ | refine Chg.drew ?_ | refine Chg.drewN ?_ _ | refine Chg.alloc ?_ _ | refine Chg.setCell ?_ (Or.inr (by dsimp only; omega)) _))

set_option maxHeartbeats 4000000 in
theorem rdone_any (t : T) (v : V) (pass : Int) (ok : Bool) (now : Int) (w : World) (ht : TOk t = true) (h : VOk v) (hn : tickB now = true) :
    Calls Try.prog 43 #[.agg #[.int .i64 t.F, .int .i64 t.W, .int .i64 t.S], .agg #[.int .u8 v.st, .int .i64 v.turn, .int .i64 v.fails, .int .i64 v.at_], .int .i64 pass, .bool ok, .int .i64 now] w (RetPost (doneV t v pass ok now) w) := by
  have H := Lib.hid h
  obtain ⟨b1, b2, b3, b4, b5, b6, b7, b8⟩ := h
  simp only [TOk, tickB, decide_eq_true_eq] at ht hn
  obtain ⟨p1, p2, p3, p4, p5, p6⟩ := ht
  obtain ⟨n0, n1⟩ := hn
  have q0 : 0 ≤ now / t.S := Int.ediv_nonneg n0 (by omega)
  have q1 : now / t.S ≤ 2147483647 := Int.le_trans (Int.ediv_le_self _ n0) n1
  by_cases hp : pass = v.turn + 1
  · have dp : (pass != v.turn + 1) = false := by simp [hp]
    by_cases h1 : v.st = 1
    · have hs : doneV t v pass ok now = (v, 251) := by unfold doneV; rw [if_pos (.inr h1)]
      rw [hs]
      have d1 : (v.st == 1) = true := by rw [beq_iff_eq]; exact h1
      clear hs h1 hp
      go_enter Try.func43, Try.ntmps43
      go_wp2_with fail
      exact bodyPost_ret (v := .tuple #[.agg #[.int .u8 v.st, .int .i64 v.turn, .int .i64 v.fails, .int .i64 v.at_], .int .i64 251]) (by simp only [results, Try.results43]; go_simp) rfl (by unfold RetPost; refine ⟨rfl, ?_⟩; repeat (with_reducible first | exact Chg.refl _ _ | refine Chg.drew ?_ | refine Chg.drewN ?_ _ | refine Chg.alloc ?_ _ | refine Chg.setCell ?_ (Or.inr (by dsimp only; omega)) _))
    have d1 : (v.st == 1) = false := by rw [beq_eq_false_iff_ne]; exact h1
    have hn1 : ¬ (¬ pass = v.turn + 1 ∨ v.st = 1) := by rintro (h | h); exact h hp; exact h1 h
    by_cases h2 : v.st = 2
    · have d2 : (v.st == 2) = true := by rw [beq_iff_eq]; exact h2
      cases ok
      · have hs : doneV t v pass false now = (turnedV v 1 now, 0) := by unfold doneV; rw [if_neg hn1, if_pos h2]; rfl
        rw [hs]
        clear hs h1 hp h2 hn1
        go_enter Try.func43, Try.ntmps43
        go_wp2_with fail
        refine (moved_any v _ _ _ H.out).mono ?_
        rintro e w1 ⟨rfl, hc1⟩
        have hb2 : Blk w1 (w.heap.size + 1 + 1) 49 _ := (Blk.new' ((w.alloc _).alloc _) _ _ _ (by simp)).chg hc1 (by simp)
        obtain ⟨⟨e0, e1, e2, e3⟩, g0, g1, g2, g3⟩ := hb2.four
        have hsz := hc1.size
        simp only [World.size_alloc] at hsz
        have HC := Lib.hid (((((Chg.refl [] w).alloc _).alloc _).alloc _).trans hc1)
        clear hb2 hc1
        go_wp2_with fail
        exact bodyPost_ret (v := .tuple #[.agg #[.int .u8 (turnedV v 1 now).st, .int .i64 (turnedV v 1 now).turn, .int .i64 (turnedV v 1 now).fails, .int .i64 (turnedV v 1 now).at_], .int .i64 0]) (by simp only [results, Try.results43]; go_simp) rfl (by unfold RetPost; refine ⟨rfl, ?_⟩; repeat (with_reducible first | exact HC.out | refine Chg.drew ?_ | refine Chg.drewN ?_ _ | refine Chg.alloc ?_ _ | refine Chg.setCell ?_ (Or.inr (by dsimp only; omega)) _))
      · have hs : doneV t v pass true now = (turnedV v 0 (now / t.S), 0) := by unfold doneV; rw [if_neg hn1, if_pos h2]; rfl
        rw [hs]
        clear hs h1 hp h2 hn1
        go_enter Try.func43, Try.ntmps43
        go_wp2_with fail
        go_region_with ((go_at_call 57; refine (moved_any v _ _ _ H.out).mono ?_; rintro e w1 ⟨rfl, hc1⟩; have hb2 : Blk w1 (w.heap.size + 1 + 1) 49 _ := (Blk.new' ((w.alloc _).alloc _) _ _ _ (by simp)).drew.chg hc1 (by simp); obtain ⟨⟨e0, e1, e2, e3⟩, g0, g1, g2, g3⟩ := hb2.four; have hsz := hc1.size; simp only [World.size_alloc, World.size_drew] at hsz; have HC := Lib.hid ((((((Chg.refl [] w).alloc _).alloc _).alloc _).drew).trans hc1); clear hb2 hc1))
        all_goals go_wp2_with fail
        all_goals
          exact bodyPost_ret (v := .tuple #[.agg #[.int .u8 (turnedV v 0 (now / t.S)).st, .int .i64 (turnedV v 0 (now / t.S)).turn, .int .i64 (turnedV v 0 (now / t.S)).fails, .int .i64 (turnedV v 0 (now / t.S)).at_], .int .i64 0]) (by simp only [results, Try.results43]; go_simp) rfl (by unfold RetPost; refine ⟨rfl, ?_⟩; repeat (with_reducible first | exact HC.out | refine Chg.drew ?_ | refine Chg.drewN ?_ _ | refine Chg.alloc ?_ _ | refine Chg.setCell ?_ (Or.inr (by dsimp only; omega)) _))
    have d2 : (v.st == 2) = false := by rw [beq_eq_false_iff_ne]; exact h2
    cases ok
    · have ho : ∀ c : Prop, (¬ (false = true ∨ c)) ↔ ¬ c := fun c => by simp
      by_cases h3 : now / t.S < v.at_
      · have hs : doneV t v pass false now = (v, 0) := by unfold doneV; rw [if_neg hn1, if_neg h2, if_pos (.inr h3)]
        rw [hs]
        clear hs h1 hp h2 hn1 ho
        go_enter Try.func43, Try.ntmps43
        go_wp2_with fail
        exact bodyPost_ret (v := .tuple #[.agg #[.int .u8 v.st, .int .i64 v.turn, .int .i64 v.fails, .int .i64 v.at_], .int .i64 0]) (by simp only [results, Try.results43]; go_simp) rfl (by unfold RetPost; refine ⟨rfl, ?_⟩; repeat (with_reducible first | exact Chg.refl _ _ | refine Chg.drew ?_ | refine Chg.drewN ?_ _ | refine Chg.alloc ?_ _ | refine Chg.setCell ?_ (Or.inr (by dsimp only; omega)) _))
      · by_cases h4 : v.at_ < now / t.S
        · by_cases h5 : t.F ≤ 0 + 1
          · have hs : doneV t v pass false now = (turnedV v 1 now, 0) := by unfold doneV; rw [if_neg hn1, if_neg h2, if_neg ((ho _).mpr h3), if_pos h4, if_pos h5]
            rw [hs]
            clear hs h1 hp h2 hn1 ho
            go_enter Try.func43, Try.ntmps43
            go_wp2_with fail
            refine (moved_any v _ _ _ H.out).mono ?_
            rintro e w1 ⟨rfl, hc1⟩
            have hb2 : Blk w1 (w.heap.size + 1 + 1) 49 _ := ((Blk.new' ((w.alloc _).alloc _) _ _ _ (by simp)).alloc _).chg hc1 (by simp)
            obtain ⟨⟨e0, e1, e2, e3⟩, g0, g1, g2, g3⟩ := hb2.four
            have hsz := hc1.size
            simp only [World.size_alloc] at hsz
            have HC := Lib.hid ((((((Chg.refl [] w).alloc _).alloc _).alloc _).alloc _).trans hc1)
            clear hb2 hc1
            go_wp2_with fail
            exact bodyPost_ret (v := .tuple #[.agg #[.int .u8 (turnedV v 1 now).st, .int .i64 (turnedV v 1 now).turn, .int .i64 (turnedV v 1 now).fails, .int .i64 (turnedV v 1 now).at_], .int .i64 0]) (by simp only [results, Try.results43]; go_simp) rfl (by unfold RetPost; refine ⟨rfl, ?_⟩; repeat (with_reducible first | exact HC.out | refine Chg.drew ?_ | refine Chg.drewN ?_ _ | refine Chg.alloc ?_ _ | refine Chg.setCell ?_ (Or.inr (by dsimp only; omega)) _))
          · have hs : doneV t v pass false now = (⟨v.st, v.turn, 0 + 1, now / t.S⟩, 0) := by unfold doneV; rw [if_neg hn1, if_neg h2, if_neg ((ho _).mpr h3), if_pos h4, if_neg h5, if_pos h4]
            rw [hs]
            clear hs h1 hp h2 hn1 ho
            go_enter Try.func43, Try.ntmps43
            go_wp2_with fail
            all_goals
              exact bodyPost_ret (v := .tuple #[.agg #[.int .u8 v.st, .int .i64 v.turn, .int .i64 (0 + 1), .int .i64 (now / t.S)], .int .i64 0]) (by simp only [results, Try.results43]; go_simp) rfl (by unfold RetPost; refine ⟨rfl, ?_⟩; repeat (with_reducible first | exact Chg.refl _ _ | refine Chg.drew ?_ | refine Chg.drewN ?_ _ | refine Chg.alloc ?_ _ | refine Chg.setCell ?_ (Or.inr (by dsimp only; omega)) _))
        · by_cases h5 : t.F ≤ v.fails + 1
          · have hs : doneV t v pass false now = (turnedV v 1 now, 0) := by unfold doneV; rw [if_neg hn1, if_neg h2, if_neg ((ho _).mpr h3), if_neg h4, if_pos h5]
            rw [hs]
            clear hs h1 hp h2 hn1 ho
            go_enter Try.func43, Try.ntmps43
            go_wp2_with fail
            refine (moved_any v _ _ _ H.out).mono ?_
            rintro e w1 ⟨rfl, hc1⟩
            have hb2 : Blk w1 (w.heap.size + 1 + 1) 49 _ := ((Blk.new' ((w.alloc _).alloc _) _ _ _ (by simp)).alloc _).chg hc1 (by simp)
            obtain ⟨⟨e0, e1, e2, e3⟩, g0, g1, g2, g3⟩ := hb2.four
            have hsz := hc1.size
            simp only [World.size_alloc] at hsz
            have HC := Lib.hid ((((((Chg.refl [] w).alloc _).alloc _).alloc _).alloc _).trans hc1)
            clear hb2 hc1
            go_wp2_with fail
            exact bodyPost_ret (v := .tuple #[.agg #[.int .u8 (turnedV v 1 now).st, .int .i64 (turnedV v 1 now).turn, .int .i64 (turnedV v 1 now).fails, .int .i64 (turnedV v 1 now).at_], .int .i64 0]) (by simp only [results, Try.results43]; go_simp) rfl (by unfold RetPost; refine ⟨rfl, ?_⟩; repeat (with_reducible first | exact HC.out | refine Chg.drew ?_ | refine Chg.drewN ?_ _ | refine Chg.alloc ?_ _ | refine Chg.setCell ?_ (Or.inr (by dsimp only; omega)) _))
          · have hs : doneV t v pass false now = (⟨v.st, v.turn, v.fails + 1, v.at_⟩, 0) := by unfold doneV; rw [if_neg hn1, if_neg h2, if_neg ((ho _).mpr h3), if_neg h4, if_neg h5, if_neg h4]
            rw [hs]
            clear hs h1 hp h2 hn1 ho
            go_enter Try.func43, Try.ntmps43
            go_wp2_with fail
            all_goals
              exact bodyPost_ret (v := .tuple #[.agg #[.int .u8 v.st, .int .i64 v.turn, .int .i64 (v.fails + 1), .int .i64 (v.at_)], .int .i64 0]) (by simp only [results, Try.results43]; go_simp) rfl (by unfold RetPost; refine ⟨rfl, ?_⟩; repeat (with_reducible first | exact Chg.refl _ _ | refine Chg.drew ?_ | refine Chg.drewN ?_ _ | refine Chg.alloc ?_ _ | refine Chg.setCell ?_ (Or.inr (by dsimp only; omega)) _))
    · have hs : doneV t v pass true now = (v, 0) := by unfold doneV; rw [if_neg hn1, if_neg h2, if_pos (.inl rfl)]
      rw [hs]
      clear hs h1 hp h2 hn1
      go_enter Try.func43, Try.ntmps43
      go_wp2_with fail
      exact bodyPost_ret (v := .tuple #[.agg #[.int .u8 v.st, .int .i64 v.turn, .int .i64 v.fails, .int .i64 v.at_], .int .i64 0]) (by simp only [results, Try.results43]; go_simp) rfl (by unfold RetPost; refine ⟨rfl, ?_⟩; repeat (with_reducible first | exact Chg.refl _ _ | refine Chg.drew ?_ | refine Chg.drewN ?_ _ | refine Chg.alloc ?_ _ | refine Chg.setCell ?_ (Or.inr (by dsimp only; omega)) _))
  · have dp : (pass != v.turn + 1) = true := by rw [bne_iff_ne]; exact hp
    have hs : doneV t v pass ok now = (v, 251) := by unfold doneV; rw [if_pos (.inl hp)]
    rw [hs]
    clear hs hp
    go_enter Try.func43, Try.ntmps43
    go_wp2_with fail
    exact bodyPost_ret (v := .tuple #[.agg #[.int .u8 v.st, .int .i64 v.turn, .int .i64 v.fails, .int .i64 v.at_], .int .i64 251]) (by simp only [results, Try.results43]; go_simp) rfl (by unfold RetPost; refine ⟨rfl, ?_⟩; repeat (with_reducible first | exact Chg.refl _ _ | refine Chg.drew ?_ | refine Chg.drewN ?_ _ | refine Chg.alloc ?_ _ | refine Chg.setCell ?_ (Or.inr (by dsimp only; omega)) _))
end Go.Proofs.Ythbeednmekajaaa
