import Derived.Test.YthbeednmekajaaaMeter8
namespace Go.Proofs.Ythbeednmekajaaa
open Go.RowKit

theorem rate_any (now : Int) (w : World) {bm br n : Nat} {span last : Int} {rv : Nat → Nat → Int} (hm : PM w bm br n span last rv) (h1 : 1 ≤ n) (h2 : n ≤ 1000) (h3 : 1 ≤ span) (h3' : span ≤ 2147483647)
    (h4 : 0 ≤ last) (h5 : last ≤ 2147483647) (hb : ∀ i, i < n → 0 ≤ rv i 1 ∧ rv i 1 ≤ 1125899906842624 ∧ 0 ≤ rv i 2 ∧ rv i 2 ≤ 1125899906842624) {l : List (Int × Bool)} (hI : RI l n last rv) :
    Calls Try.prog 16 #[.pointer (some ⟨bm, 0, none⟩), .int .i64 now] w fun e w' => ∃ b, e = .returned (.float .f64 b) ∧
      (if tickB now then RateIs (cnt (fun p => inB n (now / span) last p.1 && p.2) l) (cnt (fun p => inB n (now / span) last p.1) l) b else IsNaN b) ∧ Chg [] w w' := by
  cases ht : tickB now
  · exact (rate_no now w ht).mono fun e w' ⟨he, hw⟩ => ⟨_, he, nan_is, hw ▸ Chg.refl _ _⟩
  · refine (rate_tick now w hm ht h1 h2 h3 h3' h4 h5 hb).mono fun e w' ⟨b, he, hr, hc⟩ => ⟨b, he, ?_, hc⟩
    obtain ⟨e1, e2⟩ := hI.rate (by omega) (now / span)
    rw [e1, e2] at hr
    exact hr

theorem rrate_any (now : Int) (w : World) {base bm n : Nat} {span : Int} {ks : List Int} {bs : List Bool} {vA vB : Value} (hm : RM w base bm n span ks bs vA vB) (h1 : 1 ≤ n) (h2 : n ≤ 1000) (h3 : 1 ≤ span) (h3' : span ≤ 2147483647)
    (hk : ∀ x ∈ ks, 0 ≤ x ∧ x ≤ 2147483647) (hlen : ks.length ≤ 8796093022208) :
    Calls Try.prog 17 #[.pointer (some ⟨bm, 0, none⟩), .int .i64 now] w fun e w' => ∃ b, e = .returned (.float .f64 b) ∧
      (if tickB now then RateIs (cnt (fun p => inB n (now / span) (lastOf ks) p.1 && p.2) (ks.zip bs)) (cnt (fun p => inB n (now / span) (lastOf ks) p.1) (ks.zip bs)) b else IsNaN b) ∧ Chg [] w w' := by
  cases ht : tickB now
  · exact (rrate_no now w ht).mono fun e w' ⟨he, hw⟩ => ⟨_, he, nan_is, hw ▸ Chg.refl _ _⟩
  · refine (rrate_tick now w hm ht h1 h2 h3 h3' hk hlen).mono fun e w' ⟨b, he, hr, hc⟩ => ⟨b, he, ?_, hc⟩
    rw [cntA_zip _ ks bs hm.hl] at hr
    exact hr

/-- Two rates told of the same counts: the same bits, or two NaNs. -/
theorem rates_same {c : Bool} {bad all : Int} {x y : Nat} (hx : if c then RateIs bad all x else IsNaN x) (hy : if c then RateIs bad all y else IsNaN y) : x = y ∨ IsNaN x ∧ IsNaN y := by
  cases c
  · exact .inr ⟨hx, hy⟩
  · simp only [if_true, RateIs] at hx hy
    cases hq : quoBits bad all with
    | some r =>
      rw [hq] at hx hy
      have e1 : x = r := hx
      have e2 : y = r := hy
      exact .inl (e1.trans e2.symm)
    | none =>
      rw [hq] at hx hy
      exact .inr ⟨hx, hy⟩

theorem get_madeCells3 (m i : Nat) (h : i < m) : (madeCells #[.int .i64 0, .int .i64 0, .int .i64 0] m)[i]? = some (.int .i64 0) := by
  simp only [madeCells]
  rw [Array.getElem?_map, Array.getElem?_range, if_pos h]
  simp only [Option.map_some]
  have : i % 3 = 0 ∨ i % 3 = 1 ∨ i % 3 = 2 := by omega
  rcases this with e | e | e <;> simp [e]

theorem MRel.start (w : World) (n : Nat) (S : Int) : MRel w (w.heap.size + 1) w.heap.size (w.heap.size + 1 + 1) n S 0
    (((w.alloc (.cells (madeCells #[.int .i64 0, .int .i64 0, .int .i64 0] (n * 3)) 99)).alloc (.cells #[.slice (some ⟨w.heap.size, 0, none⟩) n n, .int .i64 S, .int .i64 0] 94)).alloc
      (.cells #[.int .i64 n, .int .i64 S, .slice none 0 0, .slice none 0 0] 96)) := by
  have b1 : Blk (((w.alloc (.cells (madeCells #[.int .i64 0, .int .i64 0, .int .i64 0] (n * 3)) 99)).alloc (.cells #[.slice (some ⟨w.heap.size, 0, none⟩) n n, .int .i64 S, .int .i64 0] 94)).alloc
      (.cells #[.int .i64 n, .int .i64 S, .slice none 0 0, .slice none 0 0] 96)) w.heap.size 99 (madeCells #[.int .i64 0, .int .i64 0, .int .i64 0] (n * 3)) := ((Blk.new w _ _).alloc _).alloc _
  have b2 := (Blk.new (w.alloc (.cells (madeCells #[.int .i64 0, .int .i64 0, .int .i64 0] (n * 3)) 99)) 94 #[.slice (some ⟨w.heap.size, 0, none⟩) n n, .int .i64 S, .int .i64 0]).alloc (.cells #[.int .i64 n, .int .i64 S, .slice none 0 0, .slice none 0 0] 96)
  have b3 := Blk.new ((w.alloc (.cells (madeCells #[.int .i64 0, .int .i64 0, .int .i64 0] (n * 3)) 99)).alloc (.cells #[.slice (some ⟨w.heap.size, 0, none⟩) n n, .int .i64 S, .int .i64 0] 94)) 96 #[.int .i64 n, .int .i64 S, .slice none 0 0, .slice none 0 0]
  simp only [World.size_alloc] at b2 b3
  refine ⟨fun _ _ => 0, [], [], .slice none 0 0, .slice none 0 0, ⟨b2, fun i hi j hj => ?_, fun i => b1.frozen i, by omega, _, b1⟩, ⟨b3, World.ownsRow_nil _ _ _ _, World.ownsRow_nil _ _ _ _, by omega, rfl⟩, RI.start n,
    (((Below.refl _ _).alloc (Nat.le_refl _) _).alloc (by simp) _).alloc (by simp; omega) _, by simp, fun x h => absurd h (by simp), Nat.le_refl _, by omega⟩
  rw [b1.cell]
  exact get_madeCells3 _ _ (by omega)

set_option maxRecDepth 100000 in
set_option maxHeartbeats 1000000 in
theorem walk (N S : Int) (A : Option Addr) (len cap : Nat) (limit : Int) (w : World) (hlen : len ≤ 8796093022208) (xs : Nat → Bool × Bool × Int)
    (hx : 0 < len → ∃ b off, A = some ⟨b, off, none⟩ ∧ b < w.heap.size ∧ ∀ i, i < len → CountAt w b off i (xs i)) :
    Calls Try.prog 3 #[.int .i64 N, .int .i64 S, .slice A len cap, .int .u64 limit] w fun e w' => e = .returned (.bool true) ∧ Below w.heap.size w w' := by
  cases hm : meterB N S
  · have HM := Lib.hid hm; clear hm
    go_enter Try.func3, Try.ntmps3
    go_wp2_with (first
      | (go_at_call 11; refine (newMeter_no _ _ _ HM.out).mono ?_; rintro e w' ⟨rfl, rfl⟩)
      | (go_at_call 12; refine (rnew_no _ _ _ HM.out).mono ?_; rintro e w' ⟨rfl, rfl⟩))
    go_ret
    exact ⟨rfl, Below.refl _ _⟩
  · have HM := Lib.hid hm
    simp only [meterB, decide_eq_true_eq] at hm
    obtain ⟨n1, n2, s1, s2⟩ := hm
    obtain ⟨n, rfl⟩ : ∃ n : Nat, N = n := ⟨N.toNat, by omega⟩
    have HX := Lib.hid hx; clear hx
    have hfb := run_frombits limit
    go_enter Try.func3, Try.ntmps3
    go_wp2_with (first
      | (go_at_call 11; refine (newMeter_yes n _ _ HM.out).mono ?_; rintro e w' ⟨rfl, rfl⟩)
      | (go_at_call 12; refine (rnew_yes n _ _ HM.out).mono ?_; rintro e w' ⟨rfl, rfl⟩))
    go_loopw [14] (fun i wr => ∃ j : Nat, j ≤ len ∧ i = .int .i64 j ∧ MRel w (w.heap.size + 1) w.heap.size (w.heap.size + 1 + 1) n S j wr) (fun i _ => len - (intOf i).toNat)
    case atStart => exact ⟨0, Nat.zero_le _, rfl, MRel.start w n S⟩
    case round =>
      obtain ⟨j, hj, rfl, hR⟩ := hrel
      have hsz : w.heap.size ≤ wr.heap.size := by obtain ⟨_, _, _, _, _, _, _, _, hB, _⟩ := hR; exact hB.size
      have hszm : w.heap.size + 1 + 1 < wr.heap.size := by obtain ⟨_, _, _, _, _, _, hR, _⟩ := hR; exact hR.m.lt
      have HR := Lib.hid hR; clear hR
      by_cases hlt : j < len
      · obtain ⟨b, off, rfl, hbl, hcs⟩ := HX.out (by omega)
        have hb : ∃ q, w.heap.size = q := ⟨_, rfl⟩
        have hx0 : CountAt wr b off j (xs j) := by
          obtain ⟨_, _, _, _, _, _, _, _, hB, _⟩ := HR.out
          obtain ⟨g1, g2, g3⟩ := hcs j hlt
          exact ⟨(hB.cell (p := ⟨b, off + j * 3, none⟩) hbl).trans g1, (hB.cell (p := ⟨b, off + j * 3 + 1, none⟩) hbl).trans g2, (hB.cell (p := ⟨b, off + j * 3 + 2, none⟩) hbl).trans g3⟩
        obtain ⟨x0, x1, x2⟩ := hx0
        obtain ⟨⟨ask, ok, now⟩, hxe⟩ : ∃ y, xs j = y := ⟨_, rfl⟩
        rw [hxe] at x0 x1 x2
        simp only at x0 x1 x2
        clear hxe hcs hb
        have b0 : (j : Int) < (len : Int) := by omega
        cases ask
        · obtain ⟨rv, ks, bs, vA, vB, hP, hRM, hI, hB, hkj, hk, h1, h2⟩ := HR.out
          have hbd := rv_bd hI 8796093022208 (by rw [List.length_zip]; omega)
          have hLb := lastOf_bd ks 2147483647 (by omega) hk
          have hnR : wr.heap.size ∉ rS (w.heap.size + 1 + 1) vA vB := by
            simp only [rS, List.mem_cons, List.mem_append, Option.mem_toList, not_or]
            exact ⟨by omega, fun h => by have := (hRM.a.lt _ h).2; omega, fun h => by have := (hRM.b.lt _ h).2; omega⟩
          have hnS : ∀ k, k ∈ rS (w.heap.size + 1 + 1) vA vB → k ∉ [w.heap.size + 1, w.heap.size] := by
            intro k hk'
            obtain ⟨cs, hcs'⟩ := hP.b
            simp only [rS, List.mem_cons, List.mem_append, Option.mem_toList, List.not_mem_nil, or_false] at hk' ⊢
            rcases hk' with rfl | h | h
            · omega
            · rintro (rfl | rfl)
              · exact own_blk_ne hRM.a hP.m (by decide) h
              · exact own_blk_ne hRM.a hcs' (by decide) h
            · rintro (rfl | rfl)
              · exact own_blk_ne hRM.b hP.m (by decide) h
              · exact own_blk_ne hRM.b hcs' (by decide) h
          have HS := Lib.hid hnS; clear hnS
          have HP := Lib.hid hP; have HRM := Lib.hid hRM; have HI := Lib.hid hI; have HB := Lib.hid hB; have HK := Lib.hid hk
          have HBD := Lib.hid hbd; have HL := Lib.hid hLb; have HN := Lib.hid hnR
          clear hP hRM hI hB hk hbd hLb hnR
          have hkl : ks.length ≤ 8796093022208 := by omega
          go_wp2_with fail
          go_region_held3 (fun w' => w'.cell? ⟨wr.heap.size, 1, none⟩ = some (.bool ok) ∧ w'.cell? ⟨wr.heap.size, 2, none⟩ = some (.int .i64 now))
            (first
              | go_keep
              | exact ⟨(hc1.cell (by simp) (by simp; omega)).trans (by simp), (hc1.cell (by simp) (by simp; omega)).trans (by simp)⟩
              | exact ⟨(hc2.cell (by simp; have := hc1.size; simp at this; omega) HN.out).trans ((hc1.cell (by simp) (by simp; omega)).trans (by simp)), (hc2.cell (by simp; have := hc1.size; simp at this; omega) HN.out).trans ((hc1.cell (by simp) (by simp; omega)).trans (by simp))⟩)
            (first
              | (go_at_call 14; refine (add_any now ok _ (HP.out.chg0 ?_) (by omega) (by omega) s1 s2 HL.out.1 HL.out.2 ?_).mono ?_; (first | exact ((Chg.refl _ _).alloc _).drew | exact ((Chg.refl _ _).drew.alloc _)); (intro i hi; have := HBD.out i hi; omega); rintro e w1 ⟨rfl, hc1, hP1⟩)
              | (go_at_call 15; refine (radd_any now ok w1 (HRM.out.chg (((Chg.refl _ wr).alloc _).drew.trans hc1) HS.out) (by omega) (by omega) s1 s2 HK.out hkl ?_).mono ?_; (have := hc1.size; simp at this; omega); rintro e w2 ⟨rfl, vA', vB', hR2, hc2⟩))
          go_wp2_with fail
          go_roundw
          case rel => exact ⟨j + 1, by omega, by go_num, MRel.added HRM.out HI.out HB.out hkj HK.out h1 h2 s1 (((Chg.refl _ wr).alloc _).drew.trans hc1) hP1 (HRM.out.chg (((Chg.refl _ wr).alloc _).drew.trans hc1) HS.out) ⟨vA', vB', hR2, hc2⟩⟩
          case measure => simp [intOf]; omega
        · obtain ⟨rv, ks, bs, vA, vB, hP, hRM, hI, hB, hkj, hk, h1, h2⟩ := HR.out
          have hbd := rv_bd hI 8796093022208 (by rw [List.length_zip]; omega)
          have hLb := lastOf_bd ks 2147483647 (by omega) hk
          have HP := Lib.hid hP; have HRM := Lib.hid hRM; have HI := Lib.hid hI; have HB := Lib.hid hB; have HK := Lib.hid hk
          have HBD := Lib.hid hbd; have HL := Lib.hid hLb
          clear hP hRM hI hB hk hbd hLb
          have hkl : ks.length ≤ 8796093022208 := by omega
          go_wp2_with fail
          refine (rate_any now _ (HP.out.chg0 ((Chg.refl _ wr).alloc _)) (by omega) (by omega) s1 s2 HL.out.1 HL.out.2 (fun i hi => by have := HBD.out i hi; omega) HI.out).mono ?_
          rintro e w1 ⟨r1, rfl, hr1, hc1⟩
          have y1 : w1.cell? ⟨wr.heap.size, 2, none⟩ = some (.int .i64 now) := (hc1.cell (by simp) (by simp)).trans (by simp)
          have HC1 := Lib.hid (((Chg.refl [] wr).alloc (.cells #[.bool true, .bool ok, .int .i64 now] 34)).trans hc1)
          have HR1 := Lib.hid hr1
          clear hc1 hr1
          go_wp2_with fail
          refine (rrate_any now _ (HRM.out.chg HC1.out (by simp)) (by omega) (by omega) s1 s2 HK.out hkl).mono ?_
          rintro e w2 ⟨r2, rfl, hr2, hc2⟩
          have HC2 := Lib.hid (HC1.out.trans hc2)
          have hb1 := fun W => run_bits r1 W
          have hb2 := fun W => run_bits r2 W
          have hrs := rates_same HR1.out hr2
          clear hr2 hc2 y1
          have HT1 : Hid (∀ W, Calls Try.prog 19 #[.float .f64 r1, .float .f64 limit.toNat] W fun e w' => e = .returned (.bool (geqB r1 limit.toNat)) ∧ W = w') := fun W => trips_any _ _ W
          have HT2 : Hid (∀ W, Calls Try.prog 19 #[.float .f64 limit.toNat, .float .f64 r1] W fun e w' => e = .returned (.bool (geqB limit.toNat r1)) ∧ W = w') := fun W => trips_any _ _ W
          rcases hrs with rfl | ⟨hn1, hn2⟩
          · have g1 : geqB r1 limit.toNat = (FloatKind.f64.format.order r1 limit.toNat == some .gt || FloatKind.f64.format.order r1 limit.toNat == some .eq) := rfl
            have g2 : geqB limit.toNat r1 = (FloatKind.f64.format.order limit.toNat r1 == some .gt || FloatKind.f64.format.order limit.toNat r1 == some .eq) := rfl
            go_wp2_with (first
              | (go_at_call_of 19 (Value.float .f64 r1); refine (HT1.out _).mono ?_; rintro e w' ⟨rfl, rfl⟩)
              | (go_at_call_of 19 (Value.float .f64 limit.toNat); refine (HT2.out _).mono ?_; rintro e w' ⟨rfl, rfl⟩))
            go_roundw
            case rel => exact ⟨j + 1, by omega, by go_num, MRel.later HR.out HC2.out⟩
            case measure => simp [intOf]; omega
          · have g1 : geqB r1 limit.toNat = false := by simp [geqB, hn1.left]
            have g2 : geqB limit.toNat r1 = false := by simp [geqB, hn1.right]
            have o1 := hn1.left r1
            have o2 := hn2.left r2
            have o3 := hn2.left limit.toNat
            have o4 := hn2.right limit.toNat
            clear hn1 hn2
            cases hbb : ((r1 : Int) != (r2 : Int))
            all_goals
              go_wp2_with (first
                | (go_at_call_of 19 (Value.float .f64 r1); refine (HT1.out _).mono ?_; rintro e w' ⟨rfl, rfl⟩)
                | (go_at_call_of 19 (Value.float .f64 limit.toNat); refine (HT2.out _).mono ?_; rintro e w' ⟨rfl, rfl⟩))
              go_roundw
              case rel => exact ⟨j + 1, by omega, by go_num, MRel.later HR.out HC2.out⟩
              case measure => simp [intOf]; omega
      · go_wp2_with fail
        go_ret
        obtain ⟨_, _, _, _, _, _, _, _, hB, _⟩ := HR.out
        exact ⟨rfl, hB⟩
end Go.Proofs.Ythbeednmekajaaa
