import Derived.Test.YthbeednmekajaaaProbe3
namespace Go.Proofs.Ythbeednmekajaaa
open Go.RowKit

set_option maxRecDepth 100000 in
set_option maxHeartbeats 4000000 in
theorem probes_walk (t0 : T) (A : Option Addr) (len cap : Nat) (w : World) (hlen : len ≤ 8796093022208) (xs : Nat → St)
    (hx : 0 < len → ∃ b off, A = some ⟨b, off, none⟩ ∧ b < w.heap.size ∧ ∀ i, i < len → StAt w b (off + i * 6) (xs i)) :
    Calls Try.prog 5 #[.agg #[.int .i64 t0.F, .int .i64 t0.W, .int .i64 t0.S], .slice A len cap] w fun e w' => e = .returned (.bool true) ∧ Below w.heap.size w w' := by
  have HX := Lib.hid hx; clear hx
  go_enter Try.func5, Try.ntmps5
  go_wp2_with fail
  refine (works_any _).mono ?_
  rintro e w1 ⟨rfl, hc1⟩
  have k0 := (Blk.new w 41 #[.int .i64 t0.F, .int .i64 t0.W, .int .i64 t0.S]).chg hc1 (by simp)
  obtain ⟨⟨o0, o1, o2⟩, -⟩ := k0.three
  have HC1 : Hid (Chg [] w w1) := ((Chg.refl [] w).alloc _).trans hc1
  clear hc1 k0
  go_wp2_with fail
  refine (few_any t0 _).mono ?_
  rintro e w2 ⟨rfl, hc2⟩
  have HC2 : Hid (Chg [] w w2) := HC1.out.trans hc2
  have hok := few_ok t0
  clear hc2 HC1 o0 o1 o2
  generalize fewT t0 = t at *
  have HOK := Lib.hid hok; clear hok
  go_wp2_with fail
  refine (new_yes t _ HOK.out).mono ?_
  rintro e w3 ⟨bb, hbb, rfl, hB, hc3⟩
  have HC3 : Hid (Chg [] w w3) := HC2.out.trans hc3
  have HB := Lib.hid hB
  have hbb' : w.heap.size ≤ bb := Nat.le_trans HC2.out.size hbb
  clear hB hc3 HC2 hbb
  obtain ⟨i0, hi0, hz0, hz1, hz2⟩ := info_parts int_info
  have I0 := Lib.hid hi0
  have Z0 := Lib.hid hz0; have Z1 := Lib.hid hz1; have Z2 := Lib.hid hz2
  clear hi0 hz0 hz1 hz2
  go_wp2_with fail
  go_loopg [7, 8, 9, 10] len (fun g P a b i wr => ∃ (k : Nat) (ps : List Int) (v : V) (pr tn : Int), k + g = len ∧ i = .int .i64 k ∧ ps.length ≤ k ∧ a = .int .i64 pr ∧ b = .int .i64 tn ∧ 0 ≤ pr ∧ pr ≤ 1 ∧ PB w bb t ps v P wr)
  case atStart => exact ⟨0, [], v0, 0, 0, by omega, rfl, Nat.le_refl _, rfl, rfl, by omega, by omega, World.ownsRow_nil _ _ _ _, HB.out, hbb', HC3.out.below (Nat.le_refl _) (by simp)⟩
  case round =>
    obtain ⟨k, ps, v, pr, tn, hk, rfl, hpl, rfl, rfl, hp0, hp1, hR⟩ := hrel
    have HR := Lib.hid hR; clear hR
    have hsz : w.heap.size ≤ wr.heap.size := HR.out.below.size
    have hbl := HR.out.b.b.lt
    obtain ⟨P, pc, rfl, hps⟩ := HR.out.passes
    have HPS := Lib.hid hps; clear hps
    by_cases hlt : k < len
    · have b0 : (k : Int) < (len : Int) := by omega
      by_cases h2 : k < 2000
      · have b1 : (k : Int) < 2000 := by omega
        obtain ⟨b, off, rfl, hbl, hcs⟩ := HX.out (by omega)
        have hx0 : StAt wr b (off + k * 6) (xs k) := (hcs k hlt).below HR.out.below hbl
        obtain ⟨⟨who, done, hand, i_, ok, now⟩, hxe⟩ : ∃ y, xs k = y := ⟨_, rfl⟩
        rw [hxe] at hx0
        obtain ⟨x0, x1, x2, x3, x4, x5⟩ := hx0
        simp only at x0 x1 x2 x3 x4 x5
        clear hxe hcs
        go_wp2_with fail
        refine (pick_any now 300 (by decide) (by decide) _).mono ?_
        rintro e w' ⟨rfl, rfl⟩
        obtain ⟨m, hm⟩ : ∃ m, now % 300 = m := ⟨_, rfl⟩
        have hm0 := Int.emod_nonneg now (by decide : (300 : Int) ≠ 0)
        have hm1 := Int.emod_lt_of_pos now (by decide : (0 : Int) < 300)
        rw [hm] at hm0 hm1 ⊢
        have HT : Hid (tickB m = true) := by show _ = _; simp only [tickB, decide_eq_true_eq]; omega
        clear hm
        go_wp2_with fail
        refine (view_any _ bb t v (HR.out.b.alloc _)).mono ?_
        rintro e w4 ⟨rfl, hc4⟩
        simp only [av]
        go_upto_region 15 with fail
        have k11 : Blk (w4.alloc (.cells (vcells v) 56)) wr.heap.size 52 #[.int .i64 who, .bool done, .bool hand, .int .i64 i_, .bool ok, .int .i64 now] := ((Blk.new wr _ _).chg hc4 (by simp)).alloc _
        have k13 := Blk.new w4 56 (vcells v)
        have hR5 : PB w bb t ps v _ (w4.alloc (.cells (vcells v) 56)) := HR.out.same ((((Chg.refl [] wr).alloc _).trans hc4).alloc _)
        have hs5 : wr.heap.size < w4.heap.size := by have := hc4.size; simp at this; omega
        have K11 := Lib.hid k11; have K13 := Lib.hid k13; have HR5 := Lib.hid hR5
        clear x0 x1 x2 x3 x4 x5 hc4 k11 hR5 HR
        generalize hw5 : w4.alloc (.cells (vcells v) 56) = w5 at *
        simp only [vcells] at hw5
        rw [hw5]
        clear hw5
        have c1 := k13.cell 1
        simp [vcells] at c1
        clear k13
        go_upto_if 52 with fail
        go_cut [8, 9] from 30 to 175 (fun a b wc => wc = w5 ∧ b = .int .i64 v.turn ∧ ∃ q : Int, a = .int .i64 q ∧ 0 ≤ q ∧ q ≤ 1)
        case first =>
          by_cases htn : v.turn = tn
          · subst htn
            have e1 : (v.turn != v.turn) = false := by simp
            go_wp2_with fail
            go_meet
            exact ⟨rfl, rfl, pr, rfl, hp0, hp1⟩
          · have e1 : (v.turn != tn) = true := by simp [htn]
            clear htn
            go_wp2_with fail
            go_meet
            exact ⟨rfl, rfl, 0, rfl, by omega, by omega⟩
        case rest =>
          obtain ⟨rfl, rfl, q, rfl, hq0, hq1⟩ := hcut
          clear c1
          have k13 := K13.out.cell 0
          have s1 := K11.out.cell 1; have s3 := K11.out.cell 3; have s4 := K11.out.cell 4
          simp [vcells] at k13 s1 s3 s4
          have hbw : ¬ bb = w4.heap.size := by omega
          have t1 := HR5.out.b.v.t1; have t0' := HR5.out.b.v.t0
          clear k13
          cases done
          · go_wp2_with fail
            refine (Allow_any _ bb t v m HR5.out.b).mono ?_
            rintro e w6 ⟨rfl, hB6, hc6⟩
            have hR6 := HR5.out.turn hc6 hB6
            have k13b := K13.out.chg hc6 (by simp; omega)
            have HR6 := Lib.hid hR6; have K13b := Lib.hid k13b
            clear hR6 k13b s1 s3 s4 hB6 hc6
            rcases allow_cases t v m HR5.out.b.v HT.out with ⟨ha, hst⟩ | ⟨v', ha, hst, hne, hv'⟩ | ha
            · simp only [ha] at HR6 ⊢
              have HST := Lib.hid hst
              clear ha hst
              go_wp2_with fail
              refine (view_any _ bb t v HR6.out.b).mono ?_
              rintro e w7 ⟨rfl, hc7⟩
              simp only [av]
              go_upto_region 21 with fail
              have k16 := Blk.new w7 56 (vcells v)
              have k13c := (K13b.out.chg hc7 (by simp)).alloc (.cells (vcells v) 56)
              have hR8 := HR6.out.same (((Chg.refl [] w6).trans hc7).alloc (.cells (vcells v) 56))
              have K16 := Lib.hid k16; have K13c := Lib.hid k13c; have HR8 := Lib.hid hR8
              clear hc7 k13c hR8
              have hs8 := HR8.out.below.size
              generalize hw8 : w7.alloc (.cells (vcells v) 56) = w8 at *
              simp only [vcells] at hw8
              rw [hw8]
              clear hw8
              simp only [vcells] at k16
              obtain ⟨⟨c0, c1, c2, c3⟩, -⟩ := k16.four
              rw [HST.out] at c0
              clear k16
              go_wp2_with (at_builtin; refine wpList_append_own_at _ rfl (.tmp 93) (.tmp 95) _ rfl w.heap.size 3 i0 _ 1 8 Try.underlying50 I0.out Z0.out Z1.out Z2.out rfl (by omega) (.slice P ps.length pc) ps.length (ps.map (.int .i64)) rfl (ownsRow_chg HR8.out.p ((Chg.refl [] w8).alloc _) (by simp)) ⟨w8.heap.size, 0, none⟩ 1 1 [.int .i64 (v.turn + 1)] rfl rfl (cell_one_new _ _ _) (by simp [Value.oneCell']) (by simp only [maxLen]; omega) (by omega) (by simp; omega) ?_; intro v1 w9 hown hgrow hnil hat; have k16b := (K16.out.alloc _).grown hgrow (fun e => own_blk_ne HR8.out.p K16.out (by decide) e.symm); simp only [vcells] at k16b; obtain ⟨⟨c0, c1, c2, c3⟩, -⟩ := k16b.four; rw [HST.out] at c0; have HG := Lib.hid hgrow; have HO := Lib.hid hown; clear hgrow hown hnil hat k16b)
              go_roundg (gk - 1)
              case rel => exact ⟨k + 1, ps ++ [v.turn + 1], v, q, v.turn, by omega, by go_num, by simp; omega, rfl, rfl, hq0, hq1, (HR8.out.same ((Chg.refl [] w8).alloc _)).grown HG.out (by simpa using HO.out)⟩
              case measure => omega
            · have HST := Lib.hid hst; have HV := Lib.hid hv'
              have t1' := hv'.t1; have t0'' := hv'.t0
              simp only [ha] at HR6 ⊢
              clear ha hst hv'
              go_wp2_with fail
              refine (view_any _ bb t v' HR6.out.b).mono ?_
              rintro e w7 ⟨rfl, hc7⟩
              simp only [av]
              go_upto_region 21 with fail
              have k16 := Blk.new w7 56 (vcells v')
              have k13c := (K13b.out.chg hc7 (by simp)).alloc (.cells (vcells v') 56)
              have hR8 := HR6.out.same (((Chg.refl [] w6).trans hc7).alloc (.cells (vcells v') 56))
              have K16 := Lib.hid k16; have K13c := Lib.hid k13c; have HR8 := Lib.hid hR8
              clear hc7 k13c hR8
              have hs8 := HR8.out.below.size
              generalize hw8 : w7.alloc (.cells (vcells v') 56) = w8 at *
              simp only [vcells] at hw8
              rw [hw8]
              clear hw8
              simp only [vcells] at k16
              obtain ⟨⟨c0, c1, c2, c3⟩, -⟩ := k16.four
              rw [HST.out] at c0
              clear k16
              go_wp2_with (at_builtin; refine wpList_append_own_at _ rfl (.tmp 93) (.tmp 95) _ rfl w.heap.size 3 i0 _ 1 8 Try.underlying50 I0.out Z0.out Z1.out Z2.out rfl (by omega) (.slice P ps.length pc) ps.length (ps.map (.int .i64)) rfl (ownsRow_chg HR8.out.p ((Chg.refl [] w8).alloc _) (by simp)) ⟨w8.heap.size, 0, none⟩ 1 1 [.int .i64 (v'.turn + 1)] rfl rfl (cell_one_new _ _ _) (by simp [Value.oneCell']) (by simp only [maxLen]; omega) (by omega) (by simp; omega) ?_; intro v1 w9 hown hgrow hnil hat; have k16b := (K16.out.alloc _).grown hgrow (fun e => own_blk_ne HR8.out.p K16.out (by decide) e.symm); simp only [vcells] at k16b; obtain ⟨⟨c0, c1, c2, c3⟩, -⟩ := k16b.four; rw [HST.out] at c0; have HG := Lib.hid hgrow; have HO := Lib.hid hown; clear hgrow hown hnil hat k16b)
              go_roundg (gk - 1)
              case rel => exact ⟨k + 1, ps ++ [v'.turn + 1], v', 1, v'.turn, by omega, by go_num, by simp; omega, rfl, rfl, by omega, by omega, (HR8.out.same ((Chg.refl [] w8).alloc _)).grown HG.out (by simpa using HO.out)⟩
              case measure => omega
            · simp only [ha] at HR6 ⊢
              clear ha
              go_wp2_with fail
              refine (view_any _ bb t v HR6.out.b).mono ?_
              rintro e w7 ⟨rfl, hc7⟩
              simp only [av]
              go_upto_region 21 with fail
              have k16 := Blk.new w7 56 (vcells v)
              have k13c := (K13b.out.chg hc7 (by simp)).alloc (.cells (vcells v) 56)
              have hR8 := HR6.out.same (((Chg.refl [] w6).trans hc7).alloc (.cells (vcells v) 56))
              have K16 := Lib.hid k16; have K13c := Lib.hid k13c; have HR8 := Lib.hid hR8
              clear hc7 k13c hR8
              have hs8 := HR8.out.below.size
              generalize hw8 : w7.alloc (.cells (vcells v) 56) = w8 at *
              simp only [vcells] at hw8
              rw [hw8]
              clear hw8
              have k13 := K13c.out
              simp only [vcells] at k16 k13
              obtain ⟨⟨c0, c1, c2, c3⟩, -⟩ := k16.four
              obtain ⟨⟨d0, d1, d2, d3⟩, -⟩ := k13.four
              clear k16 k13
              cases hst : (v.st == 2)
              all_goals
                go_wp2_with fail
                go_roundg (gk - 1)
                case rel => exact ⟨k + 1, ps, v, q, v.turn, by omega, by go_num, by omega, rfl, rfl, hq0, hq1, HR8.out⟩
                case measure => omega
          · by_cases hz : ps.length = 0
            · have hz' : ((ps.length : Int) == 0) = true := by simp [hz]
              clear hz
              go_wp2_with fail
              go_roundg (gk - 1)
              case rel => exact ⟨k + 1, ps, v, q, v.turn, by omega, by go_num, by omega, rfl, rfl, hq0, hq1, HR5.out⟩
              case measure => omega
            · have hz' : ((ps.length : Int) == 0) = false := by simp; intro h; exact hz (by simp [h])
              obtain ⟨j, hj, hjl⟩ : ∃ j : Nat, i_ % (ps.length : Int) = j ∧ j < ps.length := by
                have h1 := Int.emod_nonneg i_ (by omega : (ps.length : Int) ≠ 0)
                have h2 := Int.emod_lt_of_pos i_ (by omega : (0 : Int) < ps.length)
                exact ⟨(i_ % (ps.length : Int)).toNat, by omega, by omega⟩
              obtain ⟨A', c', e5, h5⟩ := HR5.out.passes
              injection e5 with e1 e2 e3
              subst e1
              obtain ⟨g, y, rfl, hg, hcy⟩ := h5 j hjl
              have hjp : (j : Int) < (ps.length : Int) := by omega
              clear h5 e2 e3 hz
              go_wp2_with fail
              refine (pick_any i_ ps.length (by omega) (by omega) _).mono ?_
              rw [hj]
              rintro e w' ⟨rfl, rfl⟩
              clear hj
              go_wp2_with fail
              refine (Done_any _ bb t v y ok m HR5.out.b).mono ?_
              obtain ⟨q1, q2, q3⟩ := done_cases t v y ok m HT.out
              generalize doneR t v y ok m = r at *
              rintro e w6 ⟨rfl, hB6, hc6⟩
              have hR6 := HR5.out.turn hc6 hB6
              have k13b := K13.out.chg hc6 (by simp; omega)
              have HR6 := Lib.hid hR6; have K13b := Lib.hid k13b
              have K11b := Lib.hid (K11.out.chg hc6 (by simp; omega))
              have Q1 := Lib.hid q1; have Q2 := Lib.hid q2; have Q3 := Lib.hid q3
              clear hR6 k13b s1 s3 s4 hB6 hc6 hcy q1 q2 q3
              go_wp2_with fail
              refine (view_any _ bb t r.1 HR6.out.b).mono ?_
              rintro e w7 ⟨rfl, hc7⟩
              simp only [av]
              go_upto_region 36 with fail
              have K11c := Lib.hid ((K11b.out.chg hc7 (by simp)).alloc (.cells (vcells r.1) 56))
              have k16 := Blk.new w7 56 (vcells r.1)
              have k13c := (K13b.out.chg hc7 (by simp)).alloc (.cells (vcells r.1) 56)
              have hR8 := HR6.out.same (((Chg.refl [] w6).trans hc7).alloc (.cells (vcells r.1) 56))
              have K16 := Lib.hid k16; have K13c := Lib.hid k13c; have HR8 := Lib.hid hR8
              clear hc7 k13c hR8
              have hs8 := HR8.out.below.size
              generalize hw8 : w7.alloc (.cells (vcells r.1) 56) = w8 at *
              simp only [vcells] at hw8
              rw [hw8]
              clear hw8
              have k13 := K13c.out
              simp only [vcells] at k16 k13
              obtain ⟨⟨c0, c1, c2, c3⟩, -⟩ := k16.four
              obtain ⟨⟨d0, d1, d2, d3⟩, -⟩ := k13.four
              have s4 := K11c.out.cell 4
              simp at s4
              clear k16 k13
              by_cases hy : y = v.turn + 1
              · have e1 : (y != v.turn + 1) = false := by simp [hy]
                have e2 : decide (r.1.turn < v.turn) = false := by have := Q2.out.1; simp; omega
                have e3 : decide (v.turn + 1 < r.1.turn) = false := by have := Q2.out.2; simp; omega
                clear hy
                have four : Hid ((r.1.st == 1) = false ∨ ((r.1.st == 1) = true ∧ (v.st != 1) = false) ∨ ((r.1.st == 1) = true ∧ (v.st != 1) = true ∧ ok = false)) := by
                  show _ ∨ _
                  cases h1 : (r.1.st == 1)
                  · exact .inl rfl
                  · cases h2 : (v.st != 1)
                    · exact .inr (.inl ⟨rfl, rfl⟩)
                    · exact .inr (.inr ⟨rfl, rfl, Q3.out (by simpa using h1) (by simpa using h2)⟩)
                rcases four.out with e4 | ⟨e4, e5⟩ | ⟨e4, e5, rfl⟩
                all_goals
                  clear four
                  go_wp2_with fail
                  go_roundg (gk - 1)
                  case rel => exact ⟨k + 1, ps, r.1, q, v.turn, by omega, by go_num, by omega, rfl, rfl, hq0, hq1, HR8.out⟩
                  case measure => omega
              · have e1 : (y != v.turn + 1) = true := by simp [hy]
                obtain rfl := Q1.out hy
                clear hy
                have two : Hid ((v.st == 1) = false ∨ ((v.st == 1) = true ∧ (v.st != 1) = false)) := by
                  show _ ∨ _
                  cases h1 : (v.st == 1)
                  · exact .inl rfl
                  · exact .inr ⟨rfl, by simpa using h1⟩
                rcases two.out with e4 | ⟨e4, e5⟩
                all_goals
                  clear two
                  go_wp2_with fail
                  go_roundg (gk - 1)
                  case rel => exact ⟨k + 1, ps, v, q, v.turn, by omega, by go_num, by omega, rfl, rfl, hq0, hq1, HR8.out⟩
                  case measure => omega
      · have b1 : ¬ (k : Int) < 2000 := by omega
        go_wp2_with fail
        go_ret
        exact ⟨rfl, HR.out.below⟩
    · have b0 : ¬ (k : Int) < (len : Int) := by omega
      go_wp2_with fail
      go_ret
      exact ⟨rfl, HR.out.below⟩
end Go.Proofs.Ythbeednmekajaaa
