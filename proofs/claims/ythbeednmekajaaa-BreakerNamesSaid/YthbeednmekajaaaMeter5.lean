import Derived.Test.YthbeednmekajaaaMeter4
namespace Go.Proofs.Ythbeednmekajaaa
open Go.RowKit

def lastOf (ks : List Int) : Int := ks.foldl max 0
theorem lastOf_snoc (ks : List Int) (x : Int) : lastOf (ks ++ [x]) = max (lastOf ks) x := by simp [lastOf]
theorem lastOf_bd (ks : List Int) (B : Int) (hB : 0 ≤ B) (h : ∀ x ∈ ks, 0 ≤ x ∧ x ≤ B) : 0 ≤ lastOf ks ∧ lastOf ks ≤ B := by
  have key : ∀ (l : List Int) (a : Int), 0 ≤ a → a ≤ B → (∀ x ∈ l, 0 ≤ x ∧ x ≤ B) → 0 ≤ l.foldl max a ∧ l.foldl max a ≤ B := by
    intro l
    induction l with
    | nil => intro a h0 h1 _; exact ⟨h0, h1⟩
    | cons x l ih =>
      intro a h0 h1 hx
      have hx0 := hx x (by simp)
      exact ih (max a x) (by omega) (by omega) (fun y hy => hx y (by simp [hy]))
  exact key ks 0 (by omega) hB h
theorem lastOf_take (ks : List Int) (j : Nat) (hj : j < ks.length) : lastOf (ks.take (j + 1)) = max (lastOf (ks.take j)) ks[j] := by
  rw [List.take_succ_eq_append_getElem hj, lastOf_snoc]

def cntA (c : Int → Bool) (l : List Int) : Int := (l.filter c).length
def cntB (c : Int → Bool) (l : List (Int × Bool)) : Int := (l.filter (fun p => c p.1 && p.2)).length
theorem cntA_bd (c : Int → Bool) (l : List Int) : 0 ≤ cntA c l ∧ cntA c l ≤ l.length := by
  unfold cntA; have := List.length_filter_le c l; omega
theorem cntB_bd (c : Int → Bool) (l : List (Int × Bool)) : 0 ≤ cntB c l ∧ cntB c l ≤ l.length := by
  unfold cntB; have := List.length_filter_le (fun p : Int × Bool => c p.1 && p.2) l; omega
theorem cntA_take (c : Int → Bool) (ks : List Int) (j : Nat) (hj : j < ks.length) : cntA c (ks.take (j + 1)) = cntA c (ks.take j) + if c ks[j] then 1 else 0 := by
  unfold cntA
  rw [List.take_succ_eq_append_getElem hj, List.filter_append]
  cases h : c ks[j] <;> simp [h]
theorem cntB_take (c : Int → Bool) (l : List (Int × Bool)) (j : Nat) (hj : j < l.length) : cntB c (l.take (j + 1)) = cntB c (l.take j) + if c l[j].1 && l[j].2 then 1 else 0 := by
  unfold cntB
  rw [List.take_succ_eq_append_getElem hj, List.filter_append]
  cases h : (c l[j].1 && l[j].2) <;> simp [h]

set_option maxRecDepth 100000 in
set_option maxHeartbeats 2000000 in
theorem rrate_tick (now : Int) (w : World) {base bm n : Nat} {span : Int} {ks : List Int} {bs : List Bool} {vA vB : Value} (hm : RM w base bm n span ks bs vA vB) (ht : tickB now = true) (h1 : 1 ≤ n) (h2 : n ≤ 1000) (h3 : 1 ≤ span) (h3' : span ≤ 2147483647)
    (hk : ∀ x ∈ ks, 0 ≤ x ∧ x ≤ 2147483647) (hlen : ks.length ≤ 8796093022208) :
    Calls Try.prog 17 #[.pointer (some ⟨bm, 0, none⟩), .int .i64 now] w fun e w' => ∃ b, e = .returned (.float .f64 b) ∧
      RateIs (cntB (inB n (now / span) (lastOf ks)) (ks.zip bs)) (cntA (inB n (now / span) (lastOf ks)) ks) b ∧ Chg [] w w' := by
  have H4 := Lib.hid ht
  simp only [tickB, decide_eq_true_eq] at ht
  obtain ⟨t0, t1⟩ := ht
  have c0 := hm.m.cell 0
  have c1 := hm.m.cell 1
  have c2 := hm.m.cell 2
  have c3 := hm.m.cell 3
  have hlB := hm.hl
  obtain ⟨A, cA, rfl⟩ := own_slice hm.a
  obtain ⟨B, cB, rfl⟩ := own_slice hm.b
  simp at c0 c1 c2 c3
  have q0 : 0 ≤ now / span := Int.ediv_nonneg t0 (by omega)
  have q1 : now / span ≤ 2147483647 := Int.le_trans (Int.ediv_le_self _ t0) t1
  have HM := Lib.hid hm; clear hm
  have HK := Lib.hid hk; clear hk
  have HL := Lib.hid hlB; clear hlB
  go_enter Try.func17, Try.ntmps17
  go_wp2_with (go_at_call 40; refine (Tick_yes _ _ H4.out).mono ?_; rintro e w' ⟨rfl, rfl⟩)
  go_loopw [8, 9] (fun m i wr => ∃ j : Nat, j ≤ ks.length ∧ i = .int .i64 j ∧ m = .int .i64 (lastOf (ks.take j)) ∧ Chg [] w wr)
    (fun _ i _ => ks.length - (intOf i).toNat)
  case atStart => exact ⟨0, Nat.zero_le _, rfl, rfl, Chg.refl _ _⟩
  case round =>
    obtain ⟨j, hj, rfl, rfl, hc⟩ := hrel
    have hM := HM.out.chg hc (by simp)
    have c0 := hM.m.cell 0
    have c1 := hM.m.cell 1
    have c2 := hM.m.cell 2
    have c3 := hM.m.cell 3
    simp at c0 c1 c2 c3
    have HC := Lib.hid hc
    have HMM := Lib.hid hM
    clear hc hM
    obtain ⟨L, hL⟩ : ∃ L, L = lastOf (ks.take j) := ⟨_, rfl⟩
    have bL := lastOf_bd (ks.take j) 2147483647 (by omega) (fun x hx => HK.out x (List.mem_of_mem_take hx))
    rw [← hL] at bL ⊢
    obtain ⟨bL0, bL1⟩ := bL
    have HLL := Lib.hid hL; clear hL
    by_cases hlt : j < ks.length
    · obtain ⟨g, cap, hv, hbg, hgl, hcell⟩ := own_at HMM.out.a (by omega)
      injection hv with hv1 hv2 hv3
      subst hv1 hv3
      have r0 := hcell j hlt
      simp [hlt] at r0
      have hx := HK.out _ (List.getElem_mem hlt)
      obtain ⟨x, hxe⟩ : ∃ x, x = ks[j] := ⟨_, rfl⟩
      rw [← hxe] at r0 hx
      obtain ⟨x0, x1⟩ := hx
      have HX := Lib.hid hxe
      have HCE := Lib.hid hcell
      clear hxe hcell
      have b0 : (j : Int) < (ks.length : Int) := by omega
      go_wp2_with fail
      all_goals
        go_roundw
        case rel =>
          exact ⟨j + 1, by omega, by go_num, by rw [lastOf_take ks j hlt, ← HLL.out, ← HX.out, Int.max_def]; simp only [Value.int.injEq, true_and]; omega, HC.out⟩
        case measure => simp [intOf]; omega
    · have hjl : j = ks.length := by omega
      have HLA : Hid (L = lastOf ks) := by show _ = _; rw [HLL.out, hjl, List.take_of_length_le (Nat.le_refl _)]
      clear hjl
      obtain ⟨wo, rfl⟩ : ∃ wo : World, wo = wr := ⟨_, rfl⟩
      go_wp2_with fail
      go_loopw [6, 7, 10] (fun a b i wr => ∃ m : Nat, m ≤ ks.length ∧ i = .int .i64 m ∧ a = .int .i64 (cntA (inB n (now / span) L) (ks.take m)) ∧ b = .int .i64 (cntB (inB n (now / span) L) ((ks.zip bs).take m)) ∧ Chg [] w wr)
        (fun _ _ i _ => ks.length - (intOf i).toNat)
      case atStart => exact ⟨0, Nat.zero_le _, rfl, by simp [cntA], by simp [cntB], HC.out⟩
      case round =>
        obtain ⟨m, hm, rfl, rfl, rfl, hc⟩ := hrel
        clear c0 c1 c2 c3
        have hM := HM.out.chg hc (by simp)
        have c0 := hM.m.cell 0
        have c1 := hM.m.cell 1
        have c2 := hM.m.cell 2
        have c3 := hM.m.cell 3
        simp at c0 c1 c2 c3
        have HC := Lib.hid hc
        have HMM := Lib.hid hM
        clear hc hM
        have bA := cntA_bd (inB n (now / span) L) (ks.take m)
        have bB := cntB_bd (inB n (now / span) L) ((ks.zip bs).take m)
        have l1 : (ks.take m).length ≤ m := List.length_take_le _ _
        have l2 : ((ks.zip bs).take m).length ≤ m := List.length_take_le _ _
        obtain ⟨a, ha⟩ : ∃ a, a = cntA (inB n (now / span) L) (ks.take m) := ⟨_, rfl⟩
        obtain ⟨b, hb⟩ : ∃ b, b = cntB (inB n (now / span) L) ((ks.zip bs).take m) := ⟨_, rfl⟩
        rw [← ha] at bA ⊢
        rw [← hb] at bB ⊢
        obtain ⟨bA0, bA1⟩ := bA
        obtain ⟨bB0, bB1⟩ := bB
        have HA := Lib.hid ha
        have HB := Lib.hid hb
        have bA2 : a ≤ 8796093022208 := by omega
        have bB2 : b ≤ 8796093022208 := by omega
        clear ha hb l1 l2 bA1 bB1
        by_cases hlt : m < ks.length
        · obtain ⟨g, cap, hv, hbg, hgl, hcell⟩ := own_at HMM.out.a (by omega)
          injection hv with hv1 hv2 hv3
          subst hv1 hv3
          have hlb : m < bs.length := by rw [HL.out]; exact hlt
          obtain ⟨g', cap', hv', hbg', hgl', hcell'⟩ := own_at HMM.out.b (by omega)
          injection hv' with hv1 hv2 hv3
          subst hv1 hv3
          have r0 := hcell m hlt
          have s0 := hcell' m hlb
          simp [hlt] at r0
          simp [hlb] at s0
          have hx := HK.out _ (List.getElem_mem hlt)
          obtain ⟨x, hxe⟩ : ∃ x, x = ks[m] := ⟨_, rfl⟩
          obtain ⟨y, hye⟩ : ∃ y, y = bs[m] := ⟨_, rfl⟩
          rw [← hxe] at r0 hx
          rw [← hye] at s0
          obtain ⟨x0, x1⟩ := hx
          have hz : (ks.zip bs)[m]'(by rw [List.length_zip]; omega) = (x, y) := by rw [hxe, hye]; simp
          have HSA := Lib.hid (cntA_take (inB n (now / span) L) ks m hlt)
          have HSB := Lib.hid (cntB_take (inB n (now / span) L) (ks.zip bs) m (by rw [List.length_zip]; omega))
          rw [← hxe] at HSA
          rw [hz] at HSB
          have HCE := Lib.hid hcell
          have HCE' := Lib.hid hcell'
          clear hxe hcell hcell' hz hye
          have b0 : (m : Int) < (ks.length : Int) := by omega
          have b1 : (m : Int) < (bs.length : Int) := by omega
          by_cases g1 : x ≤ now / span
          · by_cases g2 : now / span - n < x
            · by_cases g3 : L - n < x
              · have HI : Hid (inB n (now / span) L x = true) := by show _ = _; simp only [inB, decide_eq_true_eq]; exact ⟨g1, g2, g3⟩
                have d1 : decide (x ≤ now / span) = true := by simpa using g1
                have d2 : decide (now / span - n < x) = true := by simpa using g2
                have d3 : decide (L - n < x) = true := by simpa using g3
                cases y
                all_goals
                  go_wp2_with fail
                  go_quiet (fail)
                  go_wp2_with fail
                  go_roundw
                  case rel => exact ⟨m + 1, by omega, by go_num, by rw [HSA.out, HI.out, ← HA.out, if_pos rfl], by rw [HSB.out, HI.out, ← HB.out]; simp, HC.out.drewN _⟩
                  case measure => simp [intOf]; omega
              · have HI : Hid (inB n (now / span) L x = false) := by show _ = _; simp only [inB, decide_eq_false_iff_not]; exact fun h => g3 h.2.2
                have d1 : decide (x ≤ now / span) = true := by simpa using g1
                have d2 : decide (now / span - n < x) = true := by simpa using g2
                have d3 : decide (L - n < x) = false := by simpa using g3
                go_wp2_with fail
                go_quiet (fail)
                go_wp2_with fail
                go_roundw
                case rel => exact ⟨m + 1, by omega, by go_num, by rw [HSA.out, HI.out, ← HA.out]; simp, by rw [HSB.out, HI.out, ← HB.out]; simp, HC.out.drewN _⟩
                case measure => simp [intOf]; omega
            · have HI : Hid (inB n (now / span) L x = false) := by show _ = _; simp only [inB, decide_eq_false_iff_not]; exact fun h => g2 h.2.1
              have d1 : decide (x ≤ now / span) = true := by simpa using g1
              have d2 : decide (now / span - n < x) = false := by simpa using g2
              go_wp2_with fail
              go_quiet (fail)
              go_wp2_with fail
              go_roundw
              case rel => exact ⟨m + 1, by omega, by go_num, by rw [HSA.out, HI.out, ← HA.out]; simp, by rw [HSB.out, HI.out, ← HB.out]; simp, HC.out.drewN _⟩
              case measure => simp [intOf]; omega
          · have HI : Hid (inB n (now / span) L x = false) := by show _ = _; simp only [inB, decide_eq_false_iff_not]; exact fun h => g1 h.1
            have d1 : decide (x ≤ now / span) = false := by simpa using g1
            go_wp2_with fail
            go_quiet (fail)
            go_wp2_with fail
            go_roundw
            case rel => exact ⟨m + 1, by omega, by go_num, by rw [HSA.out, HI.out, ← HA.out]; simp, by rw [HSB.out, HI.out, ← HB.out]; simp, HC.out.drewN _⟩
            case measure => simp [intOf]; omega
        · have hA : Hid (a = cntA (inB n (now / span) (lastOf ks)) ks) := by show _ = _; rw [HA.out, HLA.out, List.take_of_length_le (by omega)]
          have hB : Hid (b = cntB (inB n (now / span) (lastOf ks)) (ks.zip bs)) := by show _ = _; rw [HB.out, HLA.out, List.take_of_length_le (by simp; omega)]
          cases hq : quoBits b a with
          | some r =>
            have hrun := fun W => run_float_arith (P := Try.prog) W .quo 31 .f64 (floatOfInt .f64 b) (floatOfInt .f64 a) r hq
            have HQ := Lib.hid hq; clear hq
            go_wp2_with fail
            go_ret
            refine ⟨_, rfl, ?_, HC.out⟩
            rw [← hA.out, ← hB.out, RateIs, HQ.out]
          | none =>
            have hrun := fun W => run_quo_none Try.prog 31 (floatOfInt .f64 b) (floatOfInt .f64 a) hq W
            have HQ := Lib.hid hq; clear hq
            go_wp2_with fail
            go_ret
            refine ⟨_, rfl, ?_, HC.out.drew⟩
            rw [← hA.out, ← hB.out, RateIs, HQ.out]
            exact nanAt_nan _ _ _
end Go.Proofs.Ythbeednmekajaaa
