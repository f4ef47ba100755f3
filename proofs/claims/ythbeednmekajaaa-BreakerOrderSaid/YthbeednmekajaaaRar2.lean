import Derived.Test.YthbeednmekajaaaRar1
import Derived.Deep.RegionLaw
namespace Go.Proofs.Ythbeednmekajaaa
open Go.RowKit

def RefYes (w : World) (s : V × List R) (len : Nat) (e : Ending) (w' : World) : Prop :=
  ∃ v, e = .returned (.tuple #[v, av s.1, .int .i64 0]) ∧ w'.ownsRow w.heap.size 121 3 v len (ransOf s.2 len) ∧ VOk s.1 ∧ Chg [] w w'
def RefPost (w : World) (cs : Nat → Cl) (s : V × List R) (len : Nat) (e : Ending) (w' : World) : Prop := (Good cs len ∧ RefYes w s len e w') ∨ (¬ Good cs len ∧ RaceNo w e w')

set_option maxRecDepth 100000 in
set_option maxHeartbeats 1000000 in
theorem ref_terms (t : T) (A : Option Addr) (len cap : Nat) (B : Option Addr) (sl sc : Nat) (w : World) (ht : TOk t = false ∨ 1000 < len) :
    Calls Try.prog 30 #[.agg #[.int .i64 t.F, .int .i64 t.W, .int .i64 t.S], .slice A len cap, .slice B sl sc] w (RaceNo w) := by
  go_enter Try.func30, Try.ntmps30
  go_wp2_with fail
  refine (may_any t _).mono ?_
  rintro e w1 ⟨rfl, hc⟩
  have hv : Blk w1 (w.heap.size + 1) 49 #[.int .u8 0, .int .i64 0, .int .i64 0, .int .i64 0] := (Blk.new' _ _ _ _ (by simp)).chg hc (by simp)
  obtain ⟨⟨c0, c1, c2, c3⟩, f0, f1, f2, f3⟩ := hv.four
  have HC : Hid (Chg [] w w1) := (((Chg.refl _ _).alloc _).alloc _).trans hc
  clear hc hv
  cases hT : TOk t
  · have HT := Lib.hid hT
    clear hT ht
    go_wp2_with fail
    refine bodyPost_ret (v := .tuple #[.slice none 0 0, .agg #[.int .u8 0, .int .i64 0, .int .i64 0, .int .i64 0], .int .i64 1]) (by simp only [results, Try.results30]; go_simp) rfl ?_
    refine ⟨rfl, ?_⟩
    repeat (with_reducible first | exact HC.out | refine Chg.drew ?_ | refine Chg.setCell ?_ (.inr (Nat.le_add_right _ _)) _)
  · have h2 : decide (1000 < (len : Int)) = true := by
      rcases ht with h | h
      · rw [hT] at h; cases h
      · simp; omega
    clear hT ht
    go_wp2_with fail
    refine bodyPost_ret (v := .tuple #[.slice none 0 0, .agg #[.int .u8 0, .int .i64 0, .int .i64 0, .int .i64 0], .int .i64 1]) (by simp only [results, Try.results30]; go_simp) rfl ?_
    refine ⟨rfl, ?_⟩
    repeat (with_reducible first | exact HC.out | refine Chg.drew ?_ | refine Chg.setCell ?_ (.inr (Nat.le_add_right _ _)) _)

theorem runner_info : (Try.prog.info? 123).map (fun i => (i.zero, i.size, i.bytes)) = some (some (.agg (qcells (q0 ⟨false, 0, false, 0⟩)).toArray), 17, 136) := by kernel_rfl

theorem rran_info : (Try.prog.info? 121).map (fun i => (i.zero, i.size, i.bytes)) = some (some (.agg #[.int .i64 0, .int .i64 0, .int .i64 0]), 3, 24) := by kernel_rfl

set_option maxRecDepth 100000 in
set_option maxHeartbeats 2000000 in
theorem ref_go (t : T) (A : Option Addr) (len cap : Nat) (B : Option Addr) (sl sc : Nat) (w : World) (cs : Nat → Cl) (xs : Nat → Int) (ht : TOk t = true) (hlen : len ≤ 1000) (hsl : sl ≤ 70368744177664)
    (hcs : ClsAt w A len cs) (hxs : IntsAt w B sl xs) :
    Calls Try.prog 30 #[.agg #[.int .i64 t.F, .int .i64 t.W, .int .i64 t.S], .slice A len cap, .slice B sl sc] w (RefPost w cs (raceR t cs len xs sl) len) := by
  have HT := Lib.hid ht; have HCS := Lib.hid hcs; have HXS := Lib.hid hxs
  have d1 : decide (1000 < (len : Int)) = false := by simp; omega
  clear hcs hxs
  go_enter Try.func30, Try.ntmps30
  go_wp2_with fail
  refine (may_any t _).mono ?_
  rw [ht]
  clear ht
  rintro e w1 ⟨rfl, hc⟩
  have hb0 : Blk w1 w.heap.size 41 #[.int .i64 t.F, .int .i64 t.W, .int .i64 t.S] := ((Blk.new _ _ _).alloc _).chg hc (by simp)
  have hv : Blk w1 (w.heap.size + 1) 49 #[.int .u8 0, .int .i64 0, .int .i64 0, .int .i64 0] := (Blk.new' _ _ _ _ (by simp)).chg hc (by simp)
  obtain ⟨⟨t0, t1, t2⟩, -⟩ := hb0.three
  have HC : Hid (Chg [] w w1) := (((Chg.refl _ _).alloc _).alloc _).trans hc
  have HV := Lib.hid hv
  clear hc hb0 hv
  obtain ⟨i0, hi0, hz0, hz1, hz2⟩ := info_parts runner_info
  have I0 := Lib.hid hi0
  have Z0 := Lib.hid hz0; have Z1 := Lib.hid hz1; have Z2 := Lib.hid hz2
  clear hi0 hz0 hz1 hz2
  go_wp2_with fail
  clear t0 t1 t2
  generalize hx1 : w1.heap.size = x
  have HX1 := Lib.hid hx1; clear hx1
  have HWX : Hid (w.heap.size + 1 < x) := by have := HV.out.lt; have := HX1.out; show _ < _; omega
  go_loopg [10] len (fun gk i wr => ∃ (k : Nat) (sv : Value), k + gk = len ∧ i = .int .i64 k ∧ (∀ j, j < k → goodAt cs j = true) ∧ Blk wr x 120 #[.int .i64 t.F, .int .i64 t.W, .int .i64 t.S, .int .u8 v0.st, .int .i64 v0.turn, .int .i64 v0.fails, .int .i64 v0.at_, sv] ∧ wr.ownsRow x 123 17 sv k ((initQ cs k).flatMap qcells) ∧ (k = 0 → sv = .slice none 0 0) ∧ Blk wr (w.heap.size + 1) 49 #[.int .u8 0, .int .i64 0, .int .i64 0, .int .i64 0] ∧ Chg [] w wr)
  case atStart =>
    refine ⟨0, .slice none 0 0, by omega, rfl, fun j hj => by omega, ?_, World.ownsRow_nil _ _ _ _, fun _ => rfl, HV.out.alloc _, HC.out.alloc _⟩
    exact Blk.new' _ _ _ _ HX1.out.symm
  case round =>
    obtain ⟨k, sv, hk, rfl, hgd, hB, hO, hz, hV, hC⟩ := hrel
    have HK := Lib.hid hk; have HGD := Lib.hid hgd; have HB := Lib.hid hB; have HV := Lib.hid hV; have HC := Lib.hid hC; have HO := Lib.hid hO; have HZ := Lib.hid hz
    clear hk hgd hB hV hC hO hz
    by_cases hlt : k < len
    · obtain ⟨b, off, rfl, hb, hcl⟩ := HCS.out (by omega)
      have hb' : b < wr.heap.size := Nat.lt_of_lt_of_le hb HC.out.size
      have hk0 := (hcl k hlt).chg HC.out hb (by simp)
      obtain ⟨x0, x1, x2, x3⟩ := hk0
      have hkl : (k : Int) < (len : Int) := by omega
      by_cases hgk : goodAt cs k = true
      · have HGK := Lib.hid hgk
        have hxr : x < wr.heap.size := HB.out.lt
        have hxr1 : x < wr.heap.size + 1 := by omega
        have hxr2 : x < wr.heap.size + 1 + 1 := by omega
        have r7 := HB.out.cell 7
        simp at r7
        have gc := good_cases hgk
        have HCL := Lib.hid hcl
        clear hgk hcl
        obtain ⟨ht, hd⟩ := gc
        have HT1 := Lib.hid ht; clear ht
        rcases hd with hd | ⟨hd, j, hj, hjk, hjd⟩
        · rw [hd] at x0
          have HD := Lib.hid hd
          clear hd
          go_wp2_with fail
          refine (Tick_yes _ _ HT1.out).mono ?_
          rintro e w' ⟨rfl, rfl⟩
          go_wp2_with fail
          have HOW := Lib.hid (HO.out.alloc (.cells #[.bool false, .int .i64 (cs k).of_, .bool (cs k).ok, .int .i64 (cs k).now] 78))
          have nx := own_blk_ne HO.out HB.out (by decide)
          have nv := own_blk_ne HO.out HV.out (by decide)
          have NX := Lib.hid nx; have NV := Lib.hid nv
          have hxx : x ≤ wr.heap.size := by omega
          clear nx nv
          go_region_law (refine step_append_lies _ rfl (.tmp 69) (.tmp 72) _ rfl x 123 i0 _ 17 136 Try.underlying118 I0.out Z0.out Z1.out Z2.out rfl (by omega) sv k ((initQ cs k).flatMap qcells) rfl (own_drew (HOW.out.alloc _)) ⟨wr.heap.size + 1, 0, none⟩ 1 1 (qcells (q0 ⟨false, (cs k).of_, (cs k).ok, (cs k).now⟩)) rfl rfl (news_drew_at (wr.alloc _) _ _ _ (by rw [World.size_alloc])) (by simp [qcells, Value.oneCell']) (by omega) (by simp only [maxLen]; omega) (by omega) (by simp; omega) _ rfl ?_; intro g cg w5 hown hgrow hat hlt'; have hb5 := ((((HB.out.alloc _).alloc _).drew).grown hgrow (fun e => NX.out e.symm)); have r75 := hb5.cell 7; have f75 := hb5.frozen 7; simp at r75; have HG5 := Lib.hid hgrow; have HO5 := Lib.hid hown; have HB5 := Lib.hid hb5; clear hb5 hgrow hown hat)
          all_goals
            go_wp2_with fail
            go_roundg (gk - 1)
            case rel =>
              have hc5 : Chg sv.ownBlock.toList wr w5 := ((((Chg.refl _ wr).alloc _).alloc _).drew).grown HG5.out (fun b hb => .inl (by simp [hb]))
              have hset : Chg [x] w5 (w5.setCell ⟨x, 7, none⟩ (.slice (some ⟨g, 0, none⟩) (k + 1) cg)) := (Chg.refl _ _).setCell (.inl (by simp)) _
              have hgx := own_blk_ne HO5.out HB5.out (by decide)
              refine ⟨k + 1, .slice (some ⟨g, 0, none⟩) (k + 1) cg, by have := HK.out; omega, by go_num, fun j hj => ?_, HB5.out.set_ 7 _, ?_, fun h => absurd h (by omega), ?_, ?_⟩
              · rcases Nat.lt_or_ge j k with h | h
                · exact HGD.out j h
                · obtain rfl : j = k := by omega
                  exact HGK.out
              · have := ownsRow_chg HO5.out hset (fun b hb hm => by
                  obtain rfl : b = x := by simpa using hm
                  exact hgx hb)
                rw [initQ_succ, List.flatMap_append]
                have e : [q0 (cs k)].flatMap qcells = qcells (q0 ⟨false, (cs k).of_, (cs k).ok, (cs k).now⟩) := by
                  have ed : q0 (cs k) = q0 ⟨false, (cs k).of_, (cs k).ok, (cs k).now⟩ := by unfold q0; rw [HD.out]
                  rw [← ed]; simp
                rw [e]
                exact this
              · refine (HV.out.chg hc5 (fun hm => NV.out (by simpa using hm))).far (p := ⟨x, 7, none⟩) ?_ _
                have := HWX.out
                show ¬ (w.heap.size + 1 = x)
                omega
              · refine (HC.out.trans' hc5 (fun b hb => .inr ?_)).setCell (.inr ?_) _
                · have := (HO.out.lt b (by simpa using hb)).1
                  have := HWX.out
                  omega
                · have := HWX.out
                  show _ ≤ x
                  omega
            case measure => have := HK.out; omega
        · obtain ⟨y0, -⟩ := (HCL.out j (by omega)).chg HC.out hb (by simp)
          rw [hd] at x0
          rw [hj] at x1
          rw [hjd] at y0
          have HD := Lib.hid hd; have HJ := Lib.hid hj
          clear hd hj hjd
          have a1 : (j : Int) < (k : Int) := by omega
          have a2 : (j : Int) < (len : Int) := by omega
          have a3 : j < len := by omega
          go_wp2_with fail
          refine (Tick_yes _ _ HT1.out).mono ?_
          rintro e w' ⟨rfl, rfl⟩
          go_wp2_with fail
          have HOW := Lib.hid (HO.out.alloc (.cells #[.bool true, .int .i64 j, .bool (cs k).ok, .int .i64 (cs k).now] 78))
          have nx := own_blk_ne HO.out HB.out (by decide)
          have nv := own_blk_ne HO.out HV.out (by decide)
          have NX := Lib.hid nx; have NV := Lib.hid nv
          have hxx : x ≤ wr.heap.size := by omega
          clear nx nv
          go_region_law (refine step_append_lies _ rfl (.tmp 69) (.tmp 72) _ rfl x 123 i0 _ 17 136 Try.underlying118 I0.out Z0.out Z1.out Z2.out rfl (by omega) sv k ((initQ cs k).flatMap qcells) rfl (own_drew (HOW.out.alloc _)) ⟨wr.heap.size + 1, 0, none⟩ 1 1 (qcells (q0 ⟨true, j, (cs k).ok, (cs k).now⟩)) rfl rfl (news_drew_at (wr.alloc _) _ _ _ (by rw [World.size_alloc])) (by simp [qcells, Value.oneCell']) (by omega) (by simp only [maxLen]; omega) (by omega) (by simp; omega) _ rfl ?_; intro g cg w5 hown hgrow hat hlt'; have hb5 := ((((HB.out.alloc _).alloc _).drew).grown hgrow (fun e => NX.out e.symm)); have r75 := hb5.cell 7; have f75 := hb5.frozen 7; simp at r75; have HG5 := Lib.hid hgrow; have HO5 := Lib.hid hown; have HB5 := Lib.hid hb5; clear hb5 hgrow hown hat)
          all_goals
            go_wp2_with fail
            go_roundg (gk - 1)
            case rel =>
              have hc5 : Chg sv.ownBlock.toList wr w5 := ((((Chg.refl _ wr).alloc _).alloc _).drew).grown HG5.out (fun b hb => .inl (by simp [hb]))
              have hset : Chg [x] w5 (w5.setCell ⟨x, 7, none⟩ (.slice (some ⟨g, 0, none⟩) (k + 1) cg)) := (Chg.refl _ _).setCell (.inl (by simp)) _
              have hgx := own_blk_ne HO5.out HB5.out (by decide)
              refine ⟨k + 1, .slice (some ⟨g, 0, none⟩) (k + 1) cg, by have := HK.out; omega, by go_num, fun j' hj' => ?_, HB5.out.set_ 7 _, ?_, fun h => absurd h (by omega), ?_, ?_⟩
              · rcases Nat.lt_or_ge j' k with h | h
                · exact HGD.out j' h
                · obtain rfl : j' = k := by omega
                  exact HGK.out
              · have := ownsRow_chg HO5.out hset (fun b hb hm => by
                  obtain rfl : b = x := by simpa using hm
                  exact hgx hb)
                rw [initQ_succ, List.flatMap_append]
                have e : [q0 (cs k)].flatMap qcells = qcells (q0 ⟨true, j, (cs k).ok, (cs k).now⟩) := by
                  have ed : q0 (cs k) = q0 ⟨true, j, (cs k).ok, (cs k).now⟩ := by unfold q0; rw [HD.out, HJ.out]
                  rw [← ed]; simp
                rw [e]
                exact this
              · refine (HV.out.chg hc5 (fun hm => NV.out (by simpa using hm))).far (p := ⟨x, 7, none⟩) ?_ _
                have := HWX.out
                show ¬ (w.heap.size + 1 = x)
                omega
              · refine (HC.out.trans' hc5 (fun b hb => .inr ?_)).setCell (.inr ?_) _
                · have := (HO.out.lt b (by simpa using hb)).1
                  have := HWX.out
                  omega
                · have := HWX.out
                  show _ ≤ x
                  omega
            case measure => have := HK.out; omega
      · have hgk : goodAt cs k = false := by simpa using hgk
        have HNG : Hid (¬ Good cs len) := fun h => by have := h k hlt; rw [hgk] at this; cases this
        have hsv : w.heap.size + 1 < wr.heap.size := HV.out.lt
        obtain ⟨⟨c0, c1, c2, c3⟩, f0, f1, f2, f3⟩ := HV.out.four
        have hbc := bad_cases hgk
        have HCL := Lib.hid hcl
        clear hgk hcl
        rcases hbc with ht | ⟨ht, hd, ho⟩
        · have HT1 := Lib.hid ht; clear ht
          go_wp2_with fail
          refine (Tick_no _ _ HT1.out).mono ?_
          rintro e w' ⟨rfl, rfl⟩
          go_wp2_with fail
          refine bodyPost_ret (v := .tuple #[.slice none 0 0, .agg #[.int .u8 0, .int .i64 0, .int .i64 0, .int .i64 0], .int .i64 1]) (by simp only [results, Try.results30]; go_simp) rfl ?_
          refine .inr ⟨HNG.out, rfl, ?_⟩
          repeat (with_reducible first | exact HC.out | refine Chg.drew ?_ | refine Chg.alloc ?_ _ | refine Chg.setCell ?_ (.inr (Nat.le_add_right _ _)) _)
        · have HT1 := Lib.hid ht; clear ht
          rw [hd] at x0
          clear hd
          rcases ho with ho | ⟨h0, h1⟩ | ⟨j, hj, hjk, hjd⟩
          · go_wp2_with fail
            refine (Tick_yes _ _ HT1.out).mono ?_
            rintro e w' ⟨rfl, rfl⟩
            go_wp2_with fail
            refine bodyPost_ret (v := .tuple #[.slice none 0 0, .agg #[.int .u8 0, .int .i64 0, .int .i64 0, .int .i64 0], .int .i64 1]) (by simp only [results, Try.results30]; go_simp) rfl ?_
            refine .inr ⟨HNG.out, rfl, ?_⟩
            repeat (with_reducible first | exact HC.out | refine Chg.drew ?_ | refine Chg.alloc ?_ _ | refine Chg.setCell ?_ (.inr (Nat.le_add_right _ _)) _)
          · have h0' : ¬ (cs k).of_ < 0 := by omega
            go_wp2_with fail
            refine (Tick_yes _ _ HT1.out).mono ?_
            rintro e w' ⟨rfl, rfl⟩
            go_wp2_with fail
            refine bodyPost_ret (v := .tuple #[.slice none 0 0, .agg #[.int .u8 0, .int .i64 0, .int .i64 0, .int .i64 0], .int .i64 1]) (by simp only [results, Try.results30]; go_simp) rfl ?_
            refine .inr ⟨HNG.out, rfl, ?_⟩
            repeat (with_reducible first | exact HC.out | refine Chg.drew ?_ | refine Chg.alloc ?_ _ | refine Chg.setCell ?_ (.inr (Nat.le_add_right _ _)) _)
          · obtain ⟨y0, -⟩ := (HCL.out j (by omega)).chg HC.out hb (by simp)
            rw [hj] at x1
            rw [hjd] at y0
            clear hj hjd
            have a1 : (j : Int) < (k : Int) := by omega
            have a2 : (j : Int) < (len : Int) := by omega
            have a3 : j < len := by omega
            go_wp2_with fail
            refine (Tick_yes _ _ HT1.out).mono ?_
            rintro e w' ⟨rfl, rfl⟩
            go_wp2_with fail
            refine bodyPost_ret (v := .tuple #[.slice none 0 0, .agg #[.int .u8 0, .int .i64 0, .int .i64 0, .int .i64 0], .int .i64 1]) (by simp only [results, Try.results30]; go_simp) rfl ?_
            refine .inr ⟨HNG.out, rfl, ?_⟩
            repeat (with_reducible first | exact HC.out | refine Chg.drew ?_ | refine Chg.alloc ?_ _ | refine Chg.setCell ?_ (.inr (Nat.le_add_right _ _)) _)
    · obtain rfl : k = len := by have := HK.out; omega
      have HGD : Hid (Good cs k) := HGD.out
      have hm := race_made HB.out HO.out HZ.out HT.out HGD.out w.heap.size (by have := HV.out.lt; omega) (by have := HWX.out; omega)
      obtain ⟨g, cap', hQ, hg0, hg1⟩ := hm
      have HS : Hid (RaceS wr x g cap' t (v0, initR cs k)) := ⟨_, hQ, init_sims t cs k⟩
      have HGW : Hid (w.heap.size ≤ g) := by
        show _ ≤ _
        have := HWX.out
        by_cases h : k = 0
        · rw [hg0 h]; omega
        · have := hg1 (by omega); omega
      have HGV : Hid (w.heap.size + 1 ≠ g) := by
        show ¬ _
        have := HWX.out
        by_cases h : k = 0
        · rw [hg0 h]; omega
        · have := hg1 (by omega); omega
      clear hQ hg0 hg1 hlt
      have HI := Lib.hid (initR_inv HGD.out)
      have hkl : ¬ (k : Int) < (k : Int) := by omega
      have hnm : ∀ b, b < w.heap.size + 2 → b ≠ w.heap.size → b ∉ ([x, g] : List Nat) ∨ b = g := fun b h1 h2 => by
        have := HWX.out
        by_cases hb : b = g
        · exact .inr hb
        · exact .inl (by simp; exact ⟨by omega, hb⟩)
      clear hnm
      go_wp2_with fail
      go_loopg [12] sl (fun gk i wq => ∃ j : Nat, j + gk = sl ∧ i = .int .i64 j ∧ RaceS wq x g cap' t (runSched t (v0, initR cs k) xs j) ∧ Blk wq (w.heap.size + 1) 49 #[.int .u8 0, .int .i64 0, .int .i64 0, .int .i64 0] ∧ Chg [] w wq)
      case atStart => exact ⟨0, by omega, rfl, HS.out, HV.out, HC.out⟩
      case round =>
        obtain ⟨j, hj, rfl, hS, hV, hC⟩ := hrel
        have HJ := Lib.hid hj; have HS := Lib.hid hS; have HV := Lib.hid hV; have HC := Lib.hid hC
        clear hj hS hV hC
        have HI2 := Lib.hid (HI.out.sched (t := t) (s := (v0, initR cs k)) xs j)
        by_cases hlt : j < sl
        · obtain ⟨b, off, rfl, hb, hcl⟩ := HXS.out (by omega)
          have x0 := (HC.out.cell (p := ⟨b, off + j, none⟩) hb (by simp)).trans (hcl j hlt)
          have hjl : (j : Int) < (sl : Int) := by omega
          clear hcl
          go_wp2_with fail
          refine (rstep_any _ x g cap' t _ (xs j) HS.out HI2.out (by omega) (by omega)).mono ?_
          rintro e w' ⟨⟨b', rfl⟩, hS1, hC1⟩
          have HS1 : Hid (RaceS w' x g cap' t (runSched t (v0, initR cs k) xs (j + 1))) := hS1
          have HC1 : Hid (Chg [] w w') := HC.out.trans' hC1 (by simp; exact ⟨by have := HWX.out; omega, HGW.out⟩)
          have HV1 := Lib.hid (HV.out.chg hC1 (by simp; exact ⟨by have := HWX.out; omega, HGV.out⟩))
          clear hS1 hC1
          go_wp2_with fail
          go_roundg (gk - 1)
          case rel => exact ⟨j + 1, by have := HJ.out; omega, by go_num, HS1.out, HV1.out, HC1.out⟩
          case measure => have := HJ.out; omega
        · obtain rfl : j = sl := by have := HJ.out; omega
          clear hlt
          have hjl : ¬ (j : Int) < (j : Int) := by omega
          have hrace : raceR t cs k xs j = finR t (runSched t (v0, initR cs k) xs j) k := rfl
          have HRACE := Lib.hid hrace
          have hi3 : Inv cs k (j : Int) (runSched t (v0, initR cs k) xs j).2 := by have := HI2.out; simpa using this
          have HI3 := Lib.hid hi3
          clear hi3 hrace
          obtain ⟨wq, hwq⟩ : ∃ wq : World, wq = wr := ⟨_, rfl⟩
          subst hwq
          generalize runSched t (v0, initR cs k) xs j = s0 at *
          go_wp2_with fail
          have HV0 : Hid (w.heap.size + 1 < wq.heap.size) := HV.out.lt
          have HX0 : Hid (x < wq.heap.size) := by obtain ⟨qs, h, _⟩ := HS.out; exact h.blk.lt
          have HG0 : Hid (g < wq.heap.size) := by obtain ⟨qs, h, _⟩ := HS.out; exact h.lt
          obtain ⟨i1, hi1, hy0, hy1, hy2⟩ := info_parts rran_info
          have I1 := Lib.hid hi1
          have Y0 := Lib.hid hy0; have Y1 := Lib.hid hy1; have Y2 := Lib.hid hy2
          clear hi1 hy0 hy1 hy2
          go_loopg [14, 13] k (fun gk i o wz => ∃ n : Nat, n + gk = k ∧ i = .int .i64 n ∧ RaceS wz x g cap' t (finR t s0 n) ∧ Blk wz (w.heap.size + 1) 49 #[.int .u8 0, .int .i64 0, .int .i64 0, .int .i64 0] ∧ wz.ownsRow wq.heap.size 121 3 o n (ransOf (finR t s0 n).2 n) ∧ Chg [] w wz ∧ wq.heap.size ≤ wz.heap.size)
          case atStart =>
            exact ⟨0, by omega, rfl, HS.out, HV.out, World.ownsRow_nil _ _ _ _, HC.out, Nat.le_refl _⟩
          case round =>
            obtain ⟨n, hn, rfl, hS, hV, hO, hC, hL⟩ := hrel
            have HN := Lib.hid hn; have HS := Lib.hid hS; have HV := Lib.hid hV; have HC := Lib.hid hC; have HO := Lib.hid hO; have HL := Lib.hid hL
            clear hn hS hV hC hO hL
            have HI4 := Lib.hid (HI3.out.fin (t := t) n)
            by_cases hlt : n < k
            · have hnk : (n : Int) < (k : Int) := by omega
              have r7 : wr.cell? ⟨x, 7, none⟩ = some (.slice (some ⟨g, 0, none⟩) k cap') := by
                obtain ⟨qs, h, hs⟩ := HS.out
                have hb := h.blk
                have hq : qs.length = k := by rw [← hs.len]; exact HI4.out.len
                rw [hq, if_neg (by omega)] at hb
                exact hb.cell 7
              go_wp2_with fail
              clear r7
              obtain ⟨wo, hwo⟩ : ∃ wo : World, wo = wr := ⟨_, rfl⟩
              subst hwo
              obtain ⟨gn, hgn⟩ : ∃ x : Nat, x = gk := ⟨_, rfl⟩
              subst hgn
              go_loopg [] 3 (fun gm wz => ∃ m : Nat, m + gm = 3 ∧ RaceS wz x g cap' t (takeN t (finR t s0 n) n m) ∧ Blk wz (w.heap.size + 1) 49 #[.int .u8 0, .int .i64 0, .int .i64 0, .int .i64 0] ∧ wz.ownsRow wq.heap.size 121 3 u13 n (ransOf (finR t s0 n).2 n) ∧ Chg [] w wz ∧ wq.heap.size ≤ wz.heap.size)
              case atStart => exact ⟨0, rfl, HS.out, HV.out, HO.out, HC.out, HL.out⟩
              case round =>
                obtain ⟨m, hm, hS, hV, hO, hC, hL⟩ := hrel
                have HM := Lib.hid hm; have HS := Lib.hid hS; have HV := Lib.hid hV; have HC := Lib.hid hC; have HO := Lib.hid hO; have HL := Lib.hid hL
                clear hm hS hV hC hO hL
                have HI5 := Lib.hid (HI4.out.takeN (t := t) n m)
                have hlm : n < (takeN t (finR t s0 n) n m).2.length := by rw [HI5.out.len]; exact hlt
                have hrm : (takeN t (finR t s0 n) n m).2[n]? = some (takeN t (finR t s0 n) n m).2[n] := List.getElem?_eq_getElem hlm
                have HF3 := Lib.hid (fin_waits (t := t) HGD.out HI3.out hlt)
                generalize hrv : (takeN t (finR t s0 n) n m).2[n] = r at *
                obtain ⟨r7, c16, cov⟩ := HS.out.seen HI5.out hrm
                have HRM := Lib.hid hrm; have HCOV := Lib.hid cov
                clear hrv hrm hlm cov
                cases hov : r.over
                · have HOV := Lib.hid hov
                  rw [hov] at c16
                  clear hov
                  have hm3 : m < 3 := by
                    rcases Nat.lt_or_ge m 3 with h | h
                    · exact h
                    · obtain rfl : m = 3 := by have := HM.out; omega
                      have h1 := HF3.out
                      unfold overAt at h1
                      rw [HRM.out] at h1
                      simp only at h1
                      rw [HOV.out] at h1
                      cases h1
                  go_wp2_with fail
                  refine (rstep_any _ x g cap' t _ (n : Int) HS.out HI5.out (by omega) (by omega)).mono ?_
                  rintro e w' ⟨⟨b', rfl⟩, hS1, hC1⟩
                  have hS1 : RaceS w' x g cap' t (takeN t (finR t s0 n) n (m + 1)) := by
                    have e : stepAt t (takeN t (finR t s0 n) n m) (n : Int) = takeN t (finR t s0 n) n (m + 1) := by
                      unfold stepAt
                      rw [if_pos (by omega), Int.toNat_natCast]
                      rfl
                    rw [← e]
                    exact hS1
                  have HS1 := Lib.hid hS1
                  have HC1 : Hid (Chg [] w w') := HC.out.trans' hC1 (by simp; exact ⟨by have := HWX.out; omega, HGW.out⟩)
                  have HV1 := Lib.hid (HV.out.chg hC1 (by simp; exact ⟨by have := HWX.out; omega, HGV.out⟩))
                  have HO1 := Lib.hid (ownsRow_chg HO.out hC1 (by
                    intro b hb
                    have := (HO.out.lt b hb).1
                    simp
                    exact ⟨by have := HX0.out; omega, by have := HG0.out; omega⟩))
                  have HL1 : Hid (wq.heap.size ≤ w'.heap.size) := Nat.le_trans HL.out hC1.size
                  clear hS1 hC1
                  go_wp2_with fail
                  go_roundg (gk - 1)
                  case rel => exact ⟨m + 1, by have := HM.out; omega, HS1.out, HV1.out, HO1.out, HC1.out, HL1.out⟩
                  case measure => have := HM.out; omega
                · have HOV := Lib.hid hov
                  rw [hov] at c16
                  obtain ⟨c13, c14, c15⟩ := HCOV.out hov
                  clear hov
                  have hfin : finR t s0 (n + 1) = takeN t (finR t s0 n) n m := by
                    have hov' : overAt (takeN t (finR t s0 n) n m).2 n = true := by
                      unfold overAt
                      rw [HRM.out]
                      exact HOV.out
                    exact takeN_fix hov' 3 (by have := HM.out; omega)
                  have hsucc := ransOf_succ (t := t) HGD.out HI3.out hlt (r := r) (by rw [hfin]; exact HRM.out)
                  have HFIN := Lib.hid hfin; have HSU := Lib.hid hsucc
                  clear hfin hsucc
                  have HOA := Lib.hid (HO.out.alloc (.cells (ranCells r).toArray 121))
                  have hqs : wq.heap.size ≤ wr.heap.size := HL.out
                  go_wp2_with (at_builtin; refine wpList_append_own_at _ rfl (.tmp 109) (.tmp 118) _ rfl wq.heap.size 121 i1 _ 3 24 Try.underlying67 I1.out Y0.out Y1.out Y2.out rfl (by omega) u13 n (ransOf (finR t s0 n).2 n) rfl HOA.out ⟨wr.heap.size, 0, none⟩ 1 1 (ranCells r) rfl rfl (cells_new_at _ _ _ _ rfl) (by simp [ranCells, Value.oneCell']) (by simp only [maxLen]; omega) (by omega) (by simp; omega) ?_; intro v1 w7 hown hgrow hnil hat; have HO7 := Lib.hid hown; have HG7 := Lib.hid hgrow; clear hown hgrow hnil hat)
                  go_roundg (gn - 1)
                  case rel =>
                    have hc7 : Chg u13.ownBlock.toList wr w7 := ((Chg.refl _ wr).alloc _).grown HG7.out (fun b hb => .inl (by simp [hb]))
                    have hnot : ∀ b, b < wq.heap.size → b ∉ u13.ownBlock.toList := fun b hb hm => by
                      have := (HO.out.lt b (by simpa using hm)).1
                      omega
                    refine ⟨n + 1, by have := HN.out; omega, by go_num, ?_, HV.out.chg hc7 (hnot _ HV0.out), ?_, HC.out.trans' hc7 ?_, Nat.le_trans hqs hc7.size⟩
                    · rw [HFIN.out]; exact HS.out.chg hc7 (hnot _ HX0.out) (hnot _ HG0.out)
                    · rw [HSU.out]; exact HO7.out
                    · intro b hb
                      have := (HO.out.lt b (by simpa using hb)).1
                      have := HV0.out
                      exact .inr (by omega)
                  case measure => have := HN.out; omega
            · have HSz := HS; have HOz := HO; have HVz := HV; have HCz := HC; have HGDz := HGD
              obtain rfl : n = k := by have := HN.out; omega
              clear hlt
              rw [← HRACE.out] at HSz HOz
              have hnn : ¬ (n : Int) < (n : Int) := by omega
              have HOK : Hid (VOk (raceR t cs n xs j).1) := by obtain ⟨qs, h, _⟩ := HSz.out; exact h.vok
              have r7 : ∃ Sv cap2, wr.cell? ⟨x, 7, none⟩ = some (.slice Sv n cap2) := by
                obtain ⟨qs, h, hs⟩ := HSz.out
                have hb := h.blk
                have hq : qs.length = n := by rw [← hs.len, HRACE.out]; exact HI4.out.len
                rw [hq] at hb
                have := hb.cell 7
                by_cases h0 : n = 0
                · subst h0
                  exact ⟨none, 0, this⟩
                · rw [if_neg h0] at this
                  exact ⟨_, _, this⟩
              obtain ⟨Sv, cap2, r7⟩ := r7
              have hrc : wr.cell? ⟨x, 3, none⟩ = some (.int .u8 (raceR t cs n xs j).1.st) ∧ wr.cell? ⟨x, 4, none⟩ = some (.int .i64 (raceR t cs n xs j).1.turn) ∧ wr.cell? ⟨x, 5, none⟩ = some (.int .i64 (raceR t cs n xs j).1.fails) ∧ wr.cell? ⟨x, 6, none⟩ = some (.int .i64 (raceR t cs n xs j).1.at_) := by
                obtain ⟨qs, h, hs⟩ := HSz.out
                exact ⟨h.blk.cell 3, h.blk.cell 4, h.blk.cell 5, h.blk.cell 6⟩
              obtain ⟨r3, r4, r5, r6⟩ := hrc
              obtain ⟨⟨c0, c1, c2, c3⟩, f0, f1, f2, f3⟩ := HVz.out.four
              have HO7 := Lib.hid (own_base (b' := w.heap.size) HOz.out (by have := HV0.out; omega))
              have hnb : u13.ownBlock ≠ some (w.heap.size + 1) := fun e => by
                have := (HOz.out.lt _ e).1
                have := HV0.out
                omega
              have HNB := Lib.hid hnb
              have nx1 : ¬ x = w.heap.size + 1 := by have := HWX.out; omega
              clear hnb
              generalize raceR t cs n xs j = z at *
              go_wp2_with fail
              go_region
              all_goals go_wp2_with fail
              all_goals refine bodyPost_ret (v := .tuple #[u13, av z.1, .int .i64 0]) (by unfold av; simp only [results, Try.results30]; go_simp) rfl ?_
              all_goals
                have hset : Chg [w.heap.size + 1] wr (((((wr.drew.setCell ⟨w.heap.size + 1, 0, none⟩ (.int .u8 z.1.st)).setCell ⟨w.heap.size + 1, 1, none⟩ (.int .i64 z.1.turn)).setCell ⟨w.heap.size + 1, 2, none⟩ (.int .i64 z.1.fails)).setCell ⟨w.heap.size + 1, 3, none⟩ (.int .i64 z.1.at_))) :=
                  (((((Chg.refl _ _).drew).setCell (.inl (by simp)) _).setCell (.inl (by simp)) _).setCell (.inl (by simp)) _).setCell (.inl (by simp)) _
                refine .inl ⟨HGDz.out, u13, rfl, ownsRow_chg HO7.out hset (fun b hb hm => ?_), HOK.out, HCz.out.trans' hset (by simp)⟩
                obtain rfl : b = w.heap.size + 1 := by simpa using hm
                exact HNB.out hb
end Go.Proofs.Ythbeednmekajaaa
