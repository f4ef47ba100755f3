import Derived.Test.YthbeednmekajaaaMeter2
import Derived.Laws.FloatArith
namespace Go.Proofs.Ythbeednmekajaaa
open Go.RowKit

/-- A NaN. -/
def IsNaN (b : Nat) : Prop := ∃ s f, FloatKind.f64.format.read b = .nan s f

theorem IsNaN.left {b : Nat} (h : IsNaN b) (y : Nat) : FloatKind.f64.format.order b y = none := by
  obtain ⟨s, f, h⟩ := h
  simp [Ieee.Format.order, h, Ieee.Datum.order]
theorem IsNaN.right {b : Nat} (h : IsNaN b) (y : Nat) : FloatKind.f64.format.order y b = none := by
  obtain ⟨s, f, h⟩ := h
  simp only [Ieee.Format.order, h]
  cases FloatKind.f64.format.read y <;> rfl

theorem isNaN_word (neg : Nat) (m : Nat) (h : m < 4503599627370495) : IsNaN (neg * 2 ^ 63 + 0x7ff0000000000000 + 1 + m) := by
  have e1 : FloatKind.f64.format.signWeight = 9223372036854775808 := by decide
  have e2 : FloatKind.f64.format.binade = 4503599627370496 := by decide
  have e3 : FloatKind.f64.format.infRung = 9218868437227405312 := by decide
  refine ⟨(neg * 2 ^ 63 + 0x7ff0000000000000 + 1 + m) / FloatKind.f64.format.signWeight % 2 == 1, (neg * 2 ^ 63 + 0x7ff0000000000000 + 1 + m) % FloatKind.f64.format.signWeight - FloatKind.f64.format.infRung, ?_⟩
  · unfold Ieee.Format.read
    rw [e1, e2, e3]
    have h1 : ¬ (neg * 2 ^ 63 + 0x7ff0000000000000 + 1 + m) % 9223372036854775808 < 4503599627370496 := by omega
    have h2 : ¬ (neg * 2 ^ 63 + 0x7ff0000000000000 + 1 + m) % 9223372036854775808 < 9218868437227405312 := by omega
    have h3 : ¬ (neg * 2 ^ 63 + 0x7ff0000000000000 + 1 + m) % 9223372036854775808 = 9218868437227405312 := by omega
    simp only [if_neg h1, if_neg h2, if_neg h3]

def quoBits (bad all : Int) : Option Nat := floatBits .quo .f64 (floatOfInt .f64 bad) (floatOfInt .f64 all)

/-- The NaN that the tape gives. -/
def nanAt (w : World) (x y : Nat) : Nat := Question.cut (.nanBits .f64 x y) (w.tape w.drawn (.nanBits .f64 x y))

theorem nanAt_nan (w : World) (x y : Nat) : IsNaN (nanAt w x y) := isNaN_word _ _ (Nat.mod_lt _ (by decide))

theorem run_quo_none (P : Program) (t : TypeId) (x y : Nat) (h : floatBits .quo .f64 x y = none) (w : World) :
    (binOp .quo t (.float .f64 x) (.float .f64 y)).run P w = .ok (.float .f64 (nanAt w x y)) w.drew := by
  unfold floatBits at h
  simp only at h
  simp [binOp, Op.floatArith, h, choose, Sem.run, Question.forced, nanAt]

/-- What a rate may be. -/
def RateIs (bad all : Int) (b : Nat) : Prop := match quoBits bad all with
  | some r => b = r
  | none => IsNaN b

def sumTo (c : Nat → Bool) (f : Nat → Int) : Nat → Int
  | 0 => 0
  | i + 1 => sumTo c f i + if c i then f i else 0

theorem sumTo_bd (c : Nat → Bool) (f : Nat → Int) (B : Int) (hB : 0 ≤ B) (n : Nat) (h : ∀ i, i < n → 0 ≤ f i ∧ f i ≤ B) : 0 ≤ sumTo c f n ∧ sumTo c f n ≤ n * B := by
  induction n with
  | zero => simp [sumTo]
  | succ n ih =>
    have h1 := ih (fun i hi => h i (by omega))
    have h2 := h n (by omega)
    have h3 : ((n + 1 : Nat) : Int) * B = n * B + B := by rw [Int.natCast_succ, Int.add_mul, Int.one_mul]
    simp only [sumTo]
    rw [h3]
    split <;> omega

def inB (n : Nat) (k last x : Int) : Bool := decide (x ≤ k ∧ k - n < x ∧ last - n < x)

set_option maxHeartbeats 1000000 in
theorem rate_tick (now : Int) (w : World) {bm br n : Nat} {span last : Int} {rv : Nat → Nat → Int} (hm : PM w bm br n span last rv) (ht : tickB now = true) (h1 : 1 ≤ n) (h2 : n ≤ 1000) (h3 : 1 ≤ span) (h3' : span ≤ 2147483647)
    (h4 : 0 ≤ last) (h5 : last ≤ 2147483647) (hb : ∀ i, i < n → 0 ≤ rv i 1 ∧ rv i 1 ≤ 1125899906842624 ∧ 0 ≤ rv i 2 ∧ rv i 2 ≤ 1125899906842624) :
    Calls Try.prog 16 #[.pointer (some ⟨bm, 0, none⟩), .int .i64 now] w fun e w' => ∃ b, e = .returned (.float .f64 b) ∧
      RateIs (sumTo (fun i => inB n (now / span) last (rv i 0)) (fun i => rv i 2) n) (sumTo (fun i => inB n (now / span) last (rv i 0)) (fun i => rv i 1) n) b ∧ Chg [] w w' := by
  have H4 := Lib.hid ht
  simp only [tickB, decide_eq_true_eq] at ht
  obtain ⟨t0, t1⟩ := ht
  have c0 := hm.m.cell 0
  have c1 := hm.m.cell 1
  have c2 := hm.m.cell 2
  simp at c0 c1 c2
  have q0 : 0 ≤ now / span := Int.ediv_nonneg t0 (by omega)
  have q1 : now / span ≤ 2147483647 := Int.le_trans (Int.ediv_le_self _ t0) t1
  have HM := Lib.hid hm; clear hm
  have HB := Lib.hid hb; clear hb
  go_enter Try.func16, Try.ntmps16
  go_wp2_with (go_at_call 39; refine (tick_yes _ _ H4.out).mono ?_; rintro e w' ⟨rfl, rfl⟩)
  go_loopw [6, 7, 29] (fun a b i wr => ∃ j : Nat, j ≤ n ∧ i = .int .i64 j ∧ a = .int .i64 (sumTo (fun i => inB n (now / span) last (rv i 0)) (fun i => rv i 1) j) ∧ b = .int .i64 (sumTo (fun i => inB n (now / span) last (rv i 0)) (fun i => rv i 2) j) ∧ Chg [] w wr)
    (fun _ _ i _ => n - (intOf i).toNat)
  case atStart => exact ⟨0, Nat.zero_le _, rfl, rfl, rfl, Chg.refl _ _⟩
  case round =>
    obtain ⟨j, hj, rfl, rfl, rfl, hc⟩ := hrel
    have hM := HM.out.chg hc (by simp) (by simp)
    have c0 := hM.m.cell 0
    have c1 := hM.m.cell 1
    have c2 := hM.m.cell 2
    simp at c0 c1 c2
    have l0 := hM.m.lt
    have l1 := hM.lt
    by_cases hlt : j < n
    · have r0 := hM.r j hlt 0 (by omega)
      have r1 := hM.r j hlt 1 (by omega)
      have r2 := hM.r j hlt 2 (by omega)
      simp only [Nat.add_zero] at r0
      have HC := Lib.hid hc
      have HMM := Lib.hid hM
      clear hc hM
      obtain ⟨A, hA⟩ : ∃ A, A = sumTo (fun i => inB n (now / span) last (rv i 0)) (fun i => rv i 1) j := ⟨_, rfl⟩
      obtain ⟨B, hB⟩ : ∃ B, B = sumTo (fun i => inB n (now / span) last (rv i 0)) (fun i => rv i 2) j := ⟨_, rfl⟩
      have bA := sumTo_bd (fun i => inB n (now / span) last (rv i 0)) (fun i => rv i 1) 1125899906842624 (by omega) j (fun i hi => ⟨(HB.out i (by omega)).1, (HB.out i (by omega)).2.1⟩)
      have bB := sumTo_bd (fun i => inB n (now / span) last (rv i 0)) (fun i => rv i 2) 1125899906842624 (by omega) j (fun i hi => ⟨(HB.out i (by omega)).2.2.1, (HB.out i (by omega)).2.2.2⟩)
      rw [← hA] at bA ⊢
      rw [← hB] at bB ⊢
      obtain ⟨x0, x1, x2, x3⟩ := HB.out j hlt
      have HA := Lib.hid hA
      have HB' := Lib.hid hB
      clear hA hB
      obtain ⟨bA0, bA1⟩ := bA
      obtain ⟨bB0, bB1⟩ := bB
      have HS : Hid (∀ (f : Nat → Int), sumTo (fun i => inB n (now / span) last (rv i 0)) f (j + 1) = sumTo (fun i => inB n (now / span) last (rv i 0)) f j + if inB n (now / span) last (rv j 0) then f j else 0) := fun f => rfl
      by_cases g1 : rv j 0 ≤ now / span
      · by_cases g2 : now / span - n < rv j 0
        · by_cases g3 : last - n < rv j 0
          · have HI : Hid (inB n (now / span) last (rv j 0) = true) := by show _ = _; simp only [inB, decide_eq_true_eq]; exact ⟨g1, g2, g3⟩
            have d1 : decide (rv j 0 ≤ now / span) = true := by simpa using g1
            have d2 : decide (now / span - n < rv j 0) = true := by simpa using g2
            have d3 : decide (last - n < rv j 0) = true := by simpa using g3
            go_wp2_with fail
            go_quiet (fail)
            go_wp2_with fail
            go_roundw
            case rel => exact ⟨j + 1, by omega, by go_num, by rw [HS.out, HI.out, ← HA.out, if_pos rfl], by rw [HS.out, HI.out, ← HB'.out, if_pos rfl], (HC.out.alloc _).drewN _⟩
            case measure => simp [intOf]; omega
          · have HI : Hid (inB n (now / span) last (rv j 0) = false) := by show _ = _; simp only [inB, decide_eq_false_iff_not]; exact fun h => g3 h.2.2
            have d1 : decide (rv j 0 ≤ now / span) = true := by simpa using g1
            have d2 : decide (now / span - n < rv j 0) = true := by simpa using g2
            have d3 : decide (last - n < rv j 0) = false := by simpa using g3
            go_wp2_with fail
            go_quiet (fail)
            go_wp2_with fail
            go_roundw
            case rel => exact ⟨j + 1, by omega, by go_num, by rw [HS.out, HI.out, ← HA.out]; simp, by rw [HS.out, HI.out, ← HB'.out]; simp, (HC.out.alloc _).drewN _⟩
            case measure => simp [intOf]; omega
        · have HI : Hid (inB n (now / span) last (rv j 0) = false) := by show _ = _; simp only [inB, decide_eq_false_iff_not]; exact fun h => g2 h.2.1
          have d1 : decide (rv j 0 ≤ now / span) = true := by simpa using g1
          have d2 : decide (now / span - n < rv j 0) = false := by simpa using g2
          go_wp2_with fail
          go_quiet (fail)
          go_wp2_with fail
          go_roundw
          case rel => exact ⟨j + 1, by omega, by go_num, by rw [HS.out, HI.out, ← HA.out]; simp, by rw [HS.out, HI.out, ← HB'.out]; simp, (HC.out.alloc _).drewN _⟩
          case measure => simp [intOf]; omega
      · have HI : Hid (inB n (now / span) last (rv j 0) = false) := by show _ = _; simp only [inB, decide_eq_false_iff_not]; exact fun h => g1 h.1
        have d1 : decide (rv j 0 ≤ now / span) = false := by simpa using g1
        go_wp2_with fail
        go_quiet (fail)
        go_wp2_with fail
        go_roundw
        case rel => exact ⟨j + 1, by omega, by go_num, by rw [HS.out, HI.out, ← HA.out]; simp, by rw [HS.out, HI.out, ← HB'.out]; simp, (HC.out.alloc _).drewN _⟩
        case measure => simp [intOf]; omega
    · have : j = n := by omega
      subst this
      have HC := Lib.hid hc
      clear hc hM
      obtain ⟨A, hA⟩ : ∃ A, A = sumTo (fun i => inB j (now / span) last (rv i 0)) (fun i => rv i 1) j := ⟨_, rfl⟩
      obtain ⟨B, hB⟩ : ∃ B, B = sumTo (fun i => inB j (now / span) last (rv i 0)) (fun i => rv i 2) j := ⟨_, rfl⟩
      rw [← hA, ← hB]
      have HA := Lib.hid hA
      have HB' := Lib.hid hB
      clear hA hB
      cases hq : quoBits B A with
      | some r =>
        have hrun := fun W => run_float_arith (P := Try.prog) W .quo 31 .f64 (floatOfInt .f64 B) (floatOfInt .f64 A) r hq
        have HQ := Lib.hid hq; clear hq
        go_wp2_with fail
        go_ret
        refine ⟨_, rfl, ?_, HC.out⟩
        rw [← HA.out, ← HB'.out, RateIs, HQ.out]
      | none =>
        have hrun := fun W => run_quo_none Try.prog 31 (floatOfInt .f64 B) (floatOfInt .f64 A) hq W
        have HQ := Lib.hid hq; clear hq
        go_wp2_with fail
        go_ret
        refine ⟨_, rfl, ?_, HC.out.drew⟩
        rw [← HA.out, ← HB'.out, RateIs, HQ.out]
        exact nanAt_nan _ _ _
end Go.Proofs.Ythbeednmekajaaa
