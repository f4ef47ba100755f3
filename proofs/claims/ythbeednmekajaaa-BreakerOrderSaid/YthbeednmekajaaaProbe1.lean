import Derived.Test.YthbeednmekajaaaPlay3
import Derived.Test.YthbeednmekajaaaSer2
namespace Go.Proofs.Ythbeednmekajaaa
open Go.RowKit

theorem tmod_low {k n : Int} (hn : 0 < n) (h : k.tmod n < 0) : k.tmod n + n = k % n := by
  have := @Int.tmod_eq_emod k n
  have h1 := Int.emod_nonneg k (by omega : n ≠ 0)
  split at this <;> omega
theorem tmod_high {k n : Int} (hn : 0 < n) (h : ¬ k.tmod n < 0) : k.tmod n = k % n := by
  have := @Int.tmod_eq_emod k n
  have h1 := Int.emod_lt_of_pos k hn
  split at this <;> omega

set_option maxHeartbeats 1000000 in
theorem pick_any (k n : Int) (hn : 0 < n) (hn2 : n ≤ 8796093022208) (w : World) :
    Calls Try.prog 27 #[.int .i64 k, .int .i64 n] w fun e w' => e = .returned (.int .i64 (k % n)) ∧ w = w' := by
  have h1 := Int.emod_lt_of_pos k hn
  have h0 := Int.emod_nonneg k (by omega : n ≠ 0)
  have hz : ¬ n = 0 := by omega
  by_cases hs : k.tmod n < 0
  · have e := tmod_low hn hs
    obtain ⟨m, hm⟩ : ∃ m, k.tmod n = m := ⟨_, rfl⟩
    rw [hm] at hs e
    have E := Lib.hid e
    have b1 : -8796093022208 ≤ m := by omega
    rw [← e] at h0 h1
    clear e
    go_enter Try.func27, Try.ntmps27
    go_wp2_with fail
    go_ret
    exact ⟨congrArg (fun x => Ending.returned (.int .i64 x)) E.out, rfl⟩
  · have e := tmod_high hn hs
    obtain ⟨m, hm⟩ : ∃ m, k.tmod n = m := ⟨_, rfl⟩
    rw [hm] at hs e
    have E := Lib.hid e
    rw [← e] at h0 h1
    clear e
    go_enter Try.func27, Try.ntmps27
    go_wp2_with fail
    go_ret
    exact ⟨congrArg (fun x => Ending.returned (.int .i64 x)) E.out, rfl⟩

def fewT (t : T) : T := ⟨1 + t.F % 6, 1 + t.W % 20, 1 + t.S % 50⟩
theorem few_ok (t : T) : TOk (fewT t) = true := by
  have h1 := Int.emod_lt_of_pos t.F (by decide : (0 : Int) < 6)
  have h2 := Int.emod_lt_of_pos t.W (by decide : (0 : Int) < 20)
  have h3 := Int.emod_lt_of_pos t.S (by decide : (0 : Int) < 50)
  have g1 := Int.emod_nonneg t.F (by decide : (6 : Int) ≠ 0)
  have g2 := Int.emod_nonneg t.W (by decide : (20 : Int) ≠ 0)
  have g3 := Int.emod_nonneg t.S (by decide : (50 : Int) ≠ 0)
  refine decide_eq_true (?_ : 1 ≤ 1 + t.F % 6 ∧ 1 + t.F % 6 ≤ 1000 ∧ 1 ≤ 1 + t.W % 20 ∧ 1 + t.W % 20 ≤ 2147483647 ∧ 1 ≤ 1 + t.S % 50 ∧ 1 + t.S % 50 ≤ 2147483647)
  omega

set_option maxRecDepth 100000 in
set_option maxHeartbeats 1000000 in
theorem few_any (t : T) (w : World) : Calls Try.prog 26 #[.agg #[.int .i64 t.F, .int .i64 t.W, .int .i64 t.S]] w fun e w' =>
    e = .returned (.agg #[.int .i64 (fewT t).F, .int .i64 (fewT t).W, .int .i64 (fewT t).S]) ∧ Chg [] w w' := by
  have p1 := fun W => pick_any t.F 6 (by decide) (by decide) W
  have p2 := fun W => pick_any t.W 20 (by decide) (by decide) W
  have p3 := fun W => pick_any t.S 50 (by decide) (by decide) W
  have q0 : 0 ≤ t.F % 6 ∧ t.F % 6 ≤ 5 := by omega
  have q1 : 0 ≤ t.W % 20 ∧ t.W % 20 ≤ 19 := by omega
  have q2 : 0 ≤ t.S % 50 ∧ t.S % 50 ≤ 49 := by omega
  simp only [fewT]
  generalize t.F % 6 = a at *
  generalize t.W % 20 = b at *
  generalize t.S % 50 = c at *
  obtain ⟨a0, a1⟩ := q0
  obtain ⟨b0, b1⟩ := q1
  obtain ⟨c0, c1⟩ := q2
  have P1 := Lib.hid p1; have P2 := Lib.hid p2; have P3 := Lib.hid p3
  clear p1 p2 p3
  go_enter Try.func26, Try.ntmps26
  go_wp2_with fail
  refine wp_region_pick [] [0, 1, 2, 3, 4, 5, 6, 7, 8, 9, 10, 11, 12] 13 (by kernel_rfl) (by kernel_rfl) ?_
  simp only [List.nil_append, pickOps, List.getElem?_cons_succ, List.getElem?_cons_zero, List.drop_succ_cons, List.drop_zero]
  have k0 : ∀ W, Calls Try.prog 27 #[.int .i64 t.F, .int .i64 6] W fun e w' => e = .returned (.int .i64 a) ∧ w' = W := fun W => (P1.out W).mono fun _ _ h => ⟨h.1, h.2.symm⟩
  have k1 : ∀ W, Calls Try.prog 27 #[.int .i64 t.W, .int .i64 20] W fun e w' => e = .returned (.int .i64 b) ∧ w' = W := fun W => (P2.out W).mono fun _ _ h => ⟨h.1, h.2.symm⟩
  have k2 : ∀ W, Calls Try.prog 27 #[.int .i64 t.S, .int .i64 50] W fun e w' => e = .returned (.int .i64 c) ∧ w' = W := fun W => (P3.out W).mono fun _ _ h => ⟨h.1, h.2.symm⟩
  have K0 := Lib.hid k0; have K1 := Lib.hid k1; have K2 := Lib.hid k2
  clear k0 k1 k2
  still_step
  still_step
  still_call (K0.out _)
  still_step
  still_step
  still_step
  still_call (K1.out _)
  still_step
  still_step
  still_step
  still_call (K2.out _)
  still_step
  still_step
  refine wpStill_nil ?_
  go_wp2_with fail
  refine NoPanic.normal ?_
  go_wp2_with fail
  refine bodyPost_ret (v := .agg #[.int .i64 (1 + a), .int .i64 (1 + b), .int .i64 (1 + c)]) (by simp only [results, Try.results26]; go_simp) rfl ?_
  refine ⟨rfl, ?_⟩
  repeat (with_reducible first | exact Chg.refl _ _ | refine Chg.drew ?_ | refine Chg.alloc ?_ _ | refine Chg.setCell ?_ (.inr (by simp)) _)
end Go.Proofs.Ythbeednmekajaaa
