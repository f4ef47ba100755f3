import Derived.Test.YthbeednmekajaaaRace5
namespace Go.Proofs.Ythbeednmekajaaa
open Go.RowKit

/-- How a race of the program's ends. -/
def RaceNo (w : World) (e : Ending) (w' : World) : Prop := e = .returned (.tuple #[.slice none 0 0, av v0, .int .i64 1]) ∧ Chg [] w w'
def RaceYes (w : World) (s : V × List R) (len : Nat) (e : Ending) (w' : World) : Prop :=
  ∃ v, e = .returned (.tuple #[v, av s.1, .int .i64 0]) ∧ w'.ownsRow w.heap.size 80 3 v len (ransOf s.2 len) ∧ VOk s.1 ∧ Chg [] w w'

set_option maxRecDepth 100000 in
set_option maxHeartbeats 1000000 in
theorem race_terms (t : T) (A : Option Addr) (len cap : Nat) (B : Option Addr) (sl sc : Nat) (w : World) (ht : TOk t = false ∨ 1000 < len) :
    Calls Try.prog 32 #[.agg #[.int .i64 t.F, .int .i64 t.W, .int .i64 t.S], .slice A len cap, .slice B sl sc] w (RaceNo w) := by
  go_enter Try.func32, Try.ntmps32
  go_wp2_with fail
  refine (new_any t _).mono ?_
  rintro e w1 ⟨o, ea, rfl, hn, hc⟩
  have hv : Blk w1 (w.heap.size + 1) 56 #[.int .u8 0, .int .i64 0, .int .i64 0, .int .i64 0] := (Blk.new' _ _ _ _ (by simp)).chg hc (by simp)
  obtain ⟨⟨c0, c1, c2, c3⟩, f0, f1, f2, f3⟩ := hv.four
  have HC : Hid (Chg [] w w1) := (((Chg.refl _ _).alloc _).alloc _).trans hc
  clear hc hv
  have hcase : Hid ((ea != 0) = true ∨ ((ea != 0) = false ∧ decide (1000 < (len : Int)) = true)) := by
    show _ ∨ _
    rcases hn with ⟨h1, rfl, _⟩ | ⟨_, rfl, _⟩
    · rcases ht with ht | ht
      · rw [ht] at h1; cases h1
      · exact .inr ⟨by decide, by simp; omega⟩
    · exact .inl (by decide)
  clear hn ht
  rcases hcase.out with h | ⟨h1, h2⟩
  all_goals
    clear hcase
    go_wp2_with fail
    refine bodyPost_ret (v := .tuple #[.slice none 0 0, .agg #[.int .u8 0, .int .i64 0, .int .i64 0, .int .i64 0], .int .i64 1]) (by simp only [results, Try.results32]; go_simp) rfl ?_
    refine ⟨rfl, ?_⟩
    repeat (with_reducible first | exact HC.out | refine Chg.drew ?_ | refine Chg.setCell ?_ (.inr (Nat.le_add_right _ _)) _)

def RacePost (w : World) (cs : Nat → Cl) (s : V × List R) (len : Nat) (e : Ending) (w' : World) : Prop := (Good cs len ∧ RaceYes w s len e w') ∨ (¬ Good cs len ∧ RaceNo w e w')

/-- The ways in which a call may be bad. -/
theorem bad_cases {cs : Nat → Cl} {k : Nat} (h : goodAt cs k = false) : tickB (cs k).now = false ∨ tickB (cs k).now = true ∧ (cs k).done = true ∧ ((cs k).of_ < 0 ∨ 0 ≤ (cs k).of_ ∧ (k : Int) ≤ (cs k).of_ ∨ ∃ j : Nat, (cs k).of_ = j ∧ j < k ∧ (cs j).done = true) := by
  unfold goodAt at h
  cases h1 : tickB (cs k).now
  · exact .inl rfl
  · refine .inr ⟨rfl, ?_⟩
    rw [h1] at h
    cases h2 : (cs k).done
    · rw [h2] at h; simp at h
    · rw [h2] at h
      refine ⟨rfl, ?_⟩
      by_cases h3 : (cs k).of_ < 0
      · exact .inl h3
      · by_cases h4 : (k : Int) ≤ (cs k).of_
        · exact .inr (.inl ⟨by omega, h4⟩)
        · obtain ⟨j, hj⟩ := Int.eq_ofNat_of_zero_le (show 0 ≤ (cs k).of_ by omega)
          refine .inr (.inr ⟨j, hj, by omega, ?_⟩)
          rw [hj] at h
          have a1 : j < k := by omega
          simpa [a1] using h

theorem good_cases {cs : Nat → Cl} {k : Nat} (h : goodAt cs k = true) : tickB (cs k).now = true ∧ ((cs k).done = false ∨ (cs k).done = true ∧ ∃ j : Nat, (cs k).of_ = j ∧ j < k ∧ (cs j).done = false) := by
  refine ⟨goodAt_tick h, ?_⟩
  cases hd : (cs k).done
  · exact .inl rfl
  · obtain ⟨a, b⟩ := goodAt_done h hd
    obtain ⟨j, hj⟩ := Int.eq_ofNat_of_zero_le a
    refine .inr ⟨rfl, j, hj, by omega, ?_⟩
    unfold goodAt at h
    rw [hd, hj] at h
    simp at h
    exact h.2.2

set_option maxRecDepth 100000 in
set_option maxHeartbeats 2000000 in
theorem race_go (t : T) (A : Option Addr) (len cap : Nat) (B : Option Addr) (sl sc : Nat) (w : World) (cs : Nat → Cl) (xs : Nat → Int) (ht : TOk t = true) (hlen : len ≤ 1000) (hsl : sl ≤ 70368744177664)
    (hcs : ClsAt w A len cs) (hxs : IntsAt w B sl xs) :
    Calls Try.prog 32 #[.agg #[.int .i64 t.F, .int .i64 t.W, .int .i64 t.S], .slice A len cap, .slice B sl sc] w (RacePost w cs (raceR t cs len xs sl) len) := by
  have HT := Lib.hid ht; have HCS := Lib.hid hcs; have HXS := Lib.hid hxs
  clear ht hcs hxs
  go_enter Try.func32, Try.ntmps32
  go_wp2_with fail
  refine (new_yes t _ HT.out).mono ?_
  rintro e w1 ⟨bb, hbb, rfl, hB, hc⟩
  have hv : Blk w1 (w.heap.size + 1) 56 #[.int .u8 0, .int .i64 0, .int .i64 0, .int .i64 0] := (Blk.new' _ _ _ _ (by simp)).chg hc (by simp)
  have HV := Lib.hid hv; have HB := Lib.hid hB
  have HC : Hid (Chg [] w w1) := (((Chg.refl _ _).alloc _).alloc _).trans hc
  have HBB : Hid (w.heap.size + 1 < bb) := by show _ < _; simp at hbb; omega
  have d1 : decide (1000 < (len : Int)) = false := by simp; omega
  have mk : ∀ w, (Instr.makeSlice 124 (.int .i64 len) (.int .i64 len)).run Try.prog w = .ok (.slice (some ⟨w.heap.size, 0, none⟩) len len) (w.alloc (.cells (runZeros len) 116)) := make_runs len hlen
  clear hc hv hB hbb
  go_wp2_with fail
  clear mk
  generalize hw1 : w1.heap.size = g
  have HNE : Hid (bb ≠ g) := by have := HB.out.b.lt; show ¬ _; omega
  have HNV : Hid (w.heap.size + 1 ≠ g) := by have := HV.out.lt; show ¬ _; omega
  have HWG : Hid (w.heap.size ≤ g) := by have := HV.out.lt; show _ ≤ _; omega
  have HW1 := Lib.hid hw1; clear hw1
  go_loopg [36] len (fun gk i wr => ∃ k : Nat, k + gk = len ∧ i = .int .i64 k ∧ (∀ j, j < k → goodAt cs j = true) ∧ Runs wr g (partR cs len k) ∧ Brk wr bb t v0 ∧ Blk wr (w.heap.size + 1) 56 #[.int .u8 0, .int .i64 0, .int .i64 0, .int .i64 0] ∧ Chg [] w wr)
  case atStart =>
    refine ⟨0, by omega, rfl, fun j hj => by omega, ?_, HB.out.alloc _, HV.out.alloc _, HC.out.alloc _⟩
    rw [← HW1.out]
    exact made_runs w1 cs len
  case round =>
    obtain ⟨k, hk, rfl, hgd, hR, hB, hV, hC⟩ := hrel
    have HK := Lib.hid hk; have HGD := Lib.hid hgd; have HR := Lib.hid hR; have HB := Lib.hid hB; have HV := Lib.hid hV; have HC := Lib.hid hC
    clear hk hgd hR hB hV hC
    by_cases hlt : k < len
    · obtain ⟨b, off, rfl, hb, hcl⟩ := HCS.out (by omega)
      have hb' : b < wr.heap.size := Nat.lt_of_lt_of_le hb HC.out.size
      have hk0 := (hcl k hlt).chg HC.out hb (by simp)
      obtain ⟨x0, x1, x2, x3⟩ := hk0
      by_cases hgk : goodAt cs k = true
      · have HGK := Lib.hid hgk
        have hkl : (k : Int) < (len : Int) := by omega
        have hsv : w.heap.size + 1 < wr.heap.size := HV.out.lt
        have hbr : bb < wr.heap.size := HB.out.b.lt
        have hgr : g < wr.heap.size := HR.out.lt
        have hf : ∀ n, wr.frozen? ⟨g, n, none⟩ = false := HR.out.frozen (partR_at cs len k k hlt)
        have f0 := hf (k * 12)
        have f1 := hf (k * 12 + 1)
        have f2 := hf (k * 12 + 2)
        have f3 := hf (k * 12 + 3)
        have hA := HR.out.at_ k (r0 false 0 false 0 0) (by rw [partR_at cs len k k hlt, if_neg (by omega)])
        have g0 := hA.c 0 _ rfl
        have g1 := hA.c 1 _ rfl
        have g2 := hA.c 2 _ rfl
        have g3 := hA.c 3 _ rfl
        simp only [Nat.add_zero] at g0
        clear hA
        have gc := good_cases hgk
        have HCL := Lib.hid hcl
        clear hgk hcl hf
        obtain ⟨ht, hd⟩ := gc
        have HT1 := Lib.hid ht; clear ht
        rcases hd with hd | ⟨hd, j, hj, hjk, hjd⟩
        · rw [hd] at x0
          have hfill := HR.out.fill hlt HT1.out
          rw [hd] at hfill
          have HF := Lib.hid hfill
          clear hd hfill
          go_wp2_with fail
          refine (tick_yes _ _ HT1.out).mono ?_
          rintro e w' ⟨rfl, rfl⟩
          go_wp2_with fail
          go_roundg (gk - 1)
          case rel =>
            refine ⟨k + 1, by have := HK.out; omega, by go_num, fun i hi => ?_, HF.out.chg ((Chg.refl [] _).alloc _) (by simp), ?_, ?_, ?_⟩
            · rcases Nat.lt_or_ge i k with h | h
              · exact HGD.out i h
              · obtain rfl : i = k := by omega
                exact HGK.out
            · exact ((((HB.out.far (p := ⟨g, k * 12, none⟩) HNE.out _).far (p := ⟨g, k * 12 + 1, none⟩) HNE.out _).far (p := ⟨g, k * 12 + 2, none⟩) HNE.out _).far (p := ⟨g, k * 12 + 3, none⟩) HNE.out _).alloc _
            · exact ((((HV.out.far (p := ⟨g, k * 12, none⟩) HNV.out _).far (p := ⟨g, k * 12 + 1, none⟩) HNV.out _).far (p := ⟨g, k * 12 + 2, none⟩) HNV.out _).far (p := ⟨g, k * 12 + 3, none⟩) HNV.out _).alloc _
            · exact ((((HC.out.setCell (p := ⟨g, k * 12, none⟩) (.inr HWG.out) _).setCell (p := ⟨g, k * 12 + 1, none⟩) (.inr HWG.out) _).setCell (p := ⟨g, k * 12 + 2, none⟩) (.inr HWG.out) _).setCell (p := ⟨g, k * 12 + 3, none⟩) (.inr HWG.out) _).alloc _
          case measure => have := HK.out; omega
        · obtain ⟨y0, -⟩ := (HCL.out j (by omega)).chg HC.out hb (by simp)
          have hfill := HR.out.fill hlt HT1.out
          rw [hd] at x0 hfill
          rw [hj] at x1 hfill
          rw [hjd] at y0
          have HF := Lib.hid hfill
          clear hd hj hjd hfill
          have a1 : (j : Int) < (k : Int) := by omega
          have a2 : (j : Int) < (len : Int) := by omega
          have a3 : j < len := by omega
          go_wp2_with fail
          refine (tick_yes _ _ HT1.out).mono ?_
          rintro e w' ⟨rfl, rfl⟩
          go_wp2_with fail
          go_roundg (gk - 1)
          case rel =>
            refine ⟨k + 1, by have := HK.out; omega, by go_num, fun i hi => ?_, HF.out.chg ((Chg.refl [] _).alloc _) (by simp), ?_, ?_, ?_⟩
            · rcases Nat.lt_or_ge i k with h | h
              · exact HGD.out i h
              · obtain rfl : i = k := by omega
                exact HGK.out
            · exact ((((HB.out.far (p := ⟨g, k * 12, none⟩) HNE.out _).far (p := ⟨g, k * 12 + 1, none⟩) HNE.out _).far (p := ⟨g, k * 12 + 2, none⟩) HNE.out _).far (p := ⟨g, k * 12 + 3, none⟩) HNE.out _).alloc _
            · exact ((((HV.out.far (p := ⟨g, k * 12, none⟩) HNV.out _).far (p := ⟨g, k * 12 + 1, none⟩) HNV.out _).far (p := ⟨g, k * 12 + 2, none⟩) HNV.out _).far (p := ⟨g, k * 12 + 3, none⟩) HNV.out _).alloc _
            · exact ((((HC.out.setCell (p := ⟨g, k * 12, none⟩) (.inr HWG.out) _).setCell (p := ⟨g, k * 12 + 1, none⟩) (.inr HWG.out) _).setCell (p := ⟨g, k * 12 + 2, none⟩) (.inr HWG.out) _).setCell (p := ⟨g, k * 12 + 3, none⟩) (.inr HWG.out) _).alloc _
          case measure => have := HK.out; omega
      · have hgk : goodAt cs k = false := by simpa using hgk
        have HNG : Hid (¬ Good cs len) := fun h => by have := h k hlt; rw [hgk] at this; cases this
        have hkl : (k : Int) < (len : Int) := by omega
        have hsv : w.heap.size + 1 < wr.heap.size := HV.out.lt
        obtain ⟨⟨c0, c1, c2, c3⟩, f0, f1, f2, f3⟩ := HV.out.four
        have hbc := bad_cases hgk
        have HCL := Lib.hid hcl
        clear hgk hcl
        rcases hbc with ht | ⟨ht, hd, ho⟩
        · have HT1 := Lib.hid ht; clear ht
          go_wp2_with fail
          refine (tick_no _ _ HT1.out).mono ?_
          rintro e w' ⟨rfl, rfl⟩
          go_wp2_with fail
          refine bodyPost_ret (v := .tuple #[.slice none 0 0, .agg #[.int .u8 0, .int .i64 0, .int .i64 0, .int .i64 0], .int .i64 1]) (by simp only [results, Try.results32]; go_simp) rfl ?_
          refine .inr ⟨HNG.out, rfl, ?_⟩
          repeat (with_reducible first | exact HC.out | refine Chg.drew ?_ | refine Chg.alloc ?_ _ | refine Chg.setCell ?_ (.inr (Nat.le_add_right _ _)) _)
        · have HT1 := Lib.hid ht; clear ht
          rw [hd] at x0
          clear hd
          rcases ho with ho | ⟨h0, h1⟩ | ⟨j, hj, hjk, hjd⟩
          · go_wp2_with fail
            refine (tick_yes _ _ HT1.out).mono ?_
            rintro e w' ⟨rfl, rfl⟩
            go_wp2_with fail
            refine bodyPost_ret (v := .tuple #[.slice none 0 0, .agg #[.int .u8 0, .int .i64 0, .int .i64 0, .int .i64 0], .int .i64 1]) (by simp only [results, Try.results32]; go_simp) rfl ?_
            refine .inr ⟨HNG.out, rfl, ?_⟩
            repeat (with_reducible first | exact HC.out | refine Chg.drew ?_ | refine Chg.alloc ?_ _ | refine Chg.setCell ?_ (.inr (Nat.le_add_right _ _)) _)
          · have h0' : ¬ (cs k).of_ < 0 := by omega
            go_wp2_with fail
            refine (tick_yes _ _ HT1.out).mono ?_
            rintro e w' ⟨rfl, rfl⟩
            go_wp2_with fail
            refine bodyPost_ret (v := .tuple #[.slice none 0 0, .agg #[.int .u8 0, .int .i64 0, .int .i64 0, .int .i64 0], .int .i64 1]) (by simp only [results, Try.results32]; go_simp) rfl ?_
            refine .inr ⟨HNG.out, rfl, ?_⟩
            repeat (with_reducible first | exact HC.out | refine Chg.drew ?_ | refine Chg.alloc ?_ _ | refine Chg.setCell ?_ (.inr (Nat.le_add_right _ _)) _)
          · obtain ⟨y0, -⟩ := (HCL.out j (by omega)).chg HC.out hb (by simp)
            rw [hj] at x1
            rw [hjd] at y0
            clear hj hjd
            have a1 : (j : Int) < (k : Int) := by omega
            have a2 : (j : Int) < (len : Int) := by omega
            have a3 : j < len := by omega
            go_wp2_with fail
            refine (tick_yes _ _ HT1.out).mono ?_
            rintro e w' ⟨rfl, rfl⟩
            go_wp2_with fail
            refine bodyPost_ret (v := .tuple #[.slice none 0 0, .agg #[.int .u8 0, .int .i64 0, .int .i64 0, .int .i64 0], .int .i64 1]) (by simp only [results, Try.results32]; go_simp) rfl ?_
            refine .inr ⟨HNG.out, rfl, ?_⟩
            repeat (with_reducible first | exact HC.out | refine Chg.drew ?_ | refine Chg.alloc ?_ _ | refine Chg.setCell ?_ (.inr (Nat.le_add_right _ _)) _)
    · have hkl : ¬ (k : Int) < (len : Int) := by omega
      obtain rfl : k = len := by have := HK.out; omega
      have HGD : Hid (Good cs k) := HGD.out
      have hR := HR.out
      rw [partR_all] at hR
      have HR := Lib.hid hR
      clear hR hlt
      have HI := Lib.hid (initR_inv HGD.out)
      go_wp2_with fail
      go_loopg [77] sl (fun gk i wq => ∃ j : Nat, j + gk = sl ∧ i = .int .i64 j ∧ Runs wq g (runSched t (v0, initR cs k) xs j).2 ∧ Brk wq bb t (runSched t (v0, initR cs k) xs j).1 ∧ Blk wq (w.heap.size + 1) 56 #[.int .u8 0, .int .i64 0, .int .i64 0, .int .i64 0] ∧ Chg [] w wq)
      case atStart => exact ⟨0, by omega, rfl, HR.out, HB.out, HV.out, HC.out⟩
      case round =>
        obtain ⟨j, hj, rfl, hR, hB, hV, hC⟩ := hrel
        have HJ := Lib.hid hj; have HR := Lib.hid hR; have HB := Lib.hid hB; have HV := Lib.hid hV; have HC := Lib.hid hC
        clear hj hR hB hV hC
        have HI2 := Lib.hid (HI.out.sched (t := t) (s := (v0, initR cs k)) xs j)
        by_cases hlt : j < sl
        · obtain ⟨b, off, rfl, hb, hcl⟩ := HXS.out (by omega)
          have x0 := (HC.out.cell (p := ⟨b, off + j, none⟩) hb (by simp)).trans (hcl j hlt)
          have hjl : (j : Int) < (sl : Int) := by omega
          clear hcl
          have hnext : runSched t (v0, initR cs k) xs (j + 1) = stepAt t (runSched t (v0, initR cs k) xs j) (xs j) := rfl
          by_cases hx : 0 ≤ xs j ∧ xs j < k
          · obtain ⟨hx0, hx1⟩ := hx
            obtain ⟨i, hi⟩ := Int.eq_ofNat_of_zero_le hx0
            rw [hi] at x0 hnext hx1
            have hx2 : (0 : Int) ≤ (i : Int) := by omega
            have hil : i < k := by omega
            have hst : stepAt t (runSched t (v0, initR cs k) xs j) (i : Int) = takeR t (runSched t (v0, initR cs k) xs j) i := by
              unfold stepAt; rw [if_pos (by omega)]; rfl
            rw [hst] at hnext
            have HN := Lib.hid hnext
            clear hnext hst hi hx0
            go_wp2_with fail
            refine (take_len _ bb g t _ _ i k k (j : Int) HB.out HR.out HI2.out.len hil (by omega) HNE.out (by have := HI2.out.ok; simpa using this) (by omega)).mono ?_
            rintro e w' ⟨rfl, hB1, hR1, hC1⟩
            rw [Prod.eta, ← HN.out] at hB1 hR1
            have HB1 := Lib.hid hB1; have HR1 := Lib.hid hR1
            have HC1 : Hid (Chg [] w w') := HC.out.trans' hC1 (by simp; exact ⟨by have := HBB.out; omega, HWG.out⟩)
            have HV1 := Lib.hid (HV.out.chg hC1 (by simp; exact ⟨by have := HBB.out; omega, HNV.out⟩))
            clear hB1 hR1 hC1
            go_wp2_with fail
            go_roundg (gk - 1)
            case rel => exact ⟨j + 1, by have := HJ.out; omega, by go_num, HR1.out, HB1.out, HV1.out, HC1.out⟩
            case measure => have := HJ.out; omega
          · have hskip : stepAt t (runSched t (v0, initR cs k) xs j) (xs j) = runSched t (v0, initR cs k) xs j := by
              unfold stepAt
              by_cases h0 : 0 ≤ xs j
              · rw [if_pos h0]
                unfold takeR
                rw [List.getElem?_eq_none (by have := HI2.out.len; omega)]
              · rw [if_neg h0]
            rw [hskip] at hnext
            have HN := Lib.hid hnext
            clear hnext hskip
            have hxx : decide (0 ≤ xs j) = false ∨ (decide (0 ≤ xs j) = true ∧ decide (xs j < (k : Int)) = false) := by
              by_cases h0 : 0 ≤ xs j
              · exact .inr ⟨by simp [h0], by simp; omega⟩
              · exact .inl (by simp; omega)
            clear hx
            rcases hxx with h0 | ⟨h0, h1⟩
            all_goals
              go_wp2_with fail
              go_roundg (gk - 1)
              case rel => exact ⟨j + 1, by have := HJ.out; omega, by go_num, by rw [HN.out]; exact HR.out, by rw [HN.out]; exact HB.out, HV.out, HC.out⟩
              case measure => have := HJ.out; omega
        · obtain rfl : j = sl := by have := HJ.out; omega
          clear hlt
          have mk : ∀ w, (Instr.makeSlice 72 (.int .i64 0) (.int .i64 k)).run Try.prog w = .ok (.slice (some ⟨w.heap.size, 0, none⟩) 0 k) (w.alloc (.cells (ranZeros k) 80)) := make_rans k hlen
          have hrace : raceR t cs k xs j = finR t (runSched t (v0, initR cs k) xs j) k := rfl
          have HRACE := Lib.hid hrace
          have hi3 : Inv cs k (j : Int) (runSched t (v0, initR cs k) xs j).2 := by have := HI2.out; simpa using this
          have HI3 := Lib.hid hi3
          clear hi3
          clear hrace
          obtain ⟨wq, hwq⟩ : ∃ wq : World, wq = wr := ⟨_, rfl⟩
          subst hwq
          generalize runSched t (v0, initR cs k) xs j = s0 at *
          go_wp2_with fail
          clear mk
          have HB0 : Hid (bb < wq.heap.size) := HB.out.b.lt
          have HV0 : Hid (w.heap.size + 1 < wq.heap.size) := HV.out.lt
          have HG0 : Hid (g < wq.heap.size) := HR.out.lt
          obtain ⟨i0, hi0, hz0, hz1, hz2⟩ := info_parts ran_info
          have I0 := Lib.hid hi0
          have Z0 := Lib.hid hz0; have Z1 := Lib.hid hz1; have Z2 := Lib.hid hz2
          clear hi0 hz0 hz1 hz2
          go_loopg [99, 16] k (fun gk i o wz => ∃ n : Nat, n + gk = k ∧ i = .int .i64 n ∧ Runs wz g (finR t s0 n).2 ∧ Brk wz bb t (finR t s0 n).1 ∧ Blk wz (w.heap.size + 1) 56 #[.int .u8 0, .int .i64 0, .int .i64 0, .int .i64 0] ∧ wz.ownsRow wq.heap.size 80 3 o n (ransOf (finR t s0 n).2 n) ∧ Chg [] w wz ∧ wq.heap.size ≤ wz.heap.size)
          case atStart =>
            refine ⟨0, by omega, rfl, HR.out.chg ((Chg.refl [] _).alloc _) (by simp), HB.out.alloc _, HV.out.alloc _, ?_, HC.out.alloc _, by simp⟩
            exact World.ownsRow_made wq (ranZeros k) k (Nat.le_refl _) (by simp [maxLen]; omega) (size_madeCells _ _)
          case round =>
            obtain ⟨n, hn, rfl, hR, hB, hV, hO, hC, hS⟩ := hrel
            have HN := Lib.hid hn; have HR := Lib.hid hR; have HB := Lib.hid hB; have HV := Lib.hid hV; have HC := Lib.hid hC; have HO := Lib.hid hO; have HS := Lib.hid hS
            clear hn hR hB hV hC hO hS
            have HI4 := Lib.hid (HI3.out.fin (t := t) n)
            by_cases hlt : n < k
            · have hnk : (n : Int) < (k : Int) := by omega
              go_wp2_with fail
              obtain ⟨wo, hwo⟩ : ∃ wo : World, wo = wr := ⟨_, rfl⟩
              subst hwo
              obtain ⟨gn, hgn⟩ : ∃ x : Nat, x = gk := ⟨_, rfl⟩
              subst hgn
              go_loopg [] 3 (fun gm wz => ∃ m : Nat, m + gm = 3 ∧ Runs wz g (takeN t (finR t s0 n) n m).2 ∧ Brk wz bb t (takeN t (finR t s0 n) n m).1 ∧ Blk wz (w.heap.size + 1) 56 #[.int .u8 0, .int .i64 0, .int .i64 0, .int .i64 0] ∧ wz.ownsRow wq.heap.size 80 3 u16 n (ransOf (finR t s0 n).2 n) ∧ Chg [] w wz ∧ wq.heap.size ≤ wz.heap.size)
              case atStart => exact ⟨0, rfl, HR.out, HB.out, HV.out, HO.out, HC.out, HS.out⟩
              case round =>
                obtain ⟨m, hm, hR, hB, hV, hO, hC, hS⟩ := hrel
                have HM := Lib.hid hm; have HR := Lib.hid hR; have HB := Lib.hid hB; have HV := Lib.hid hV; have HC := Lib.hid hC; have HO := Lib.hid hO; have HS := Lib.hid hS
                clear hm hR hB hV hC hO hS
                have HI5 := Lib.hid (HI4.out.takeN (t := t) n m)
                have hlm : n < (takeN t (finR t s0 n) n m).2.length := by rw [HI5.out.len]; exact hlt
                have hrm : (takeN t (finR t s0 n) n m).2[n]? = some (takeN t (finR t s0 n) n m).2[n] := List.getElem?_eq_getElem hlm
                have HF3 := Lib.hid (fin_waits (t := t) HGD.out HI3.out hlt)
                generalize hrv : (takeN t (finR t s0 n) n m).2[n] = r at *
                have hA := HR.out.at_ n r hrm
                have c11 := hA.c 11 _ rfl
                have c5 := hA.c 5 _ rfl
                have c6 := hA.c 6 _ rfl
                have c7 := hA.c 7 _ rfl
                have HRM := Lib.hid hrm
                clear hrv hA hrm hlm
                cases hov : r.over
                · have HOV := Lib.hid hov
                  rw [hov] at c11
                  clear hov
                  have hm3 : m < 3 := by
                    rcases Nat.lt_or_ge m 3 with h | h
                    · exact h
                    · obtain rfl : m = 3 := by have := HM.out; omega
                      have h1 := HF3.out
                      unfold overAt at h1
                      rw [HRM.out] at h1
                      simp only at h1
                      rw [HOV.out] at h1
                      cases h1
                  go_wp2_with fail
                  refine (take_len _ bb g t _ _ n k k _ HB.out HR.out HI5.out.len hlt (by omega) HNE.out HI5.out.ok (by omega)).mono ?_
                  rintro e w' ⟨rfl, hB1, hR1, hC1⟩
                  have hB1 : Brk w' bb t (takeN t (finR t s0 n) n (m + 1)).1 := hB1
                  have hR1 : Runs w' g (takeN t (finR t s0 n) n (m + 1)).2 := hR1
                  have HB1 := Lib.hid hB1; have HR1 := Lib.hid hR1
                  have HC1 : Hid (Chg [] w w') := HC.out.trans' hC1 (by simp; exact ⟨by have := HBB.out; omega, HWG.out⟩)
                  have HV1 := Lib.hid (HV.out.chg hC1 (by simp; exact ⟨by have := HBB.out; omega, HNV.out⟩))
                  have HO1 := Lib.hid (ownsRow_chg HO.out hC1 (by
                    intro b hb
                    have := (HO.out.lt b hb).1
                    simp
                    exact ⟨by have := HB0.out; omega, by have := HG0.out; omega⟩))
                  have HS1 : Hid (wq.heap.size ≤ w'.heap.size) := Nat.le_trans HS.out hC1.size
                  clear hB1 hR1 hC1
                  go_wp2_with fail
                  go_roundg (gk - 1)
                  case rel => exact ⟨m + 1, by have := HM.out; omega, HR1.out, HB1.out, HV1.out, HO1.out, HC1.out, HS1.out⟩
                  case measure => have := HM.out; omega
                · have HOV := Lib.hid hov
                  rw [hov] at c11
                  clear hov
                  have hfin : finR t s0 (n + 1) = takeN t (finR t s0 n) n m := by
                    have hov' : overAt (takeN t (finR t s0 n) n m).2 n = true := by
                      unfold overAt
                      rw [HRM.out]
                      exact HOV.out
                    exact takeN_fix hov' 3 (by have := HM.out; omega)
                  have hsucc := ransOf_succ (t := t) HGD.out HI3.out hlt (r := r) (by rw [hfin]; exact HRM.out)
                  have HFIN := Lib.hid hfin; have HSU := Lib.hid hsucc
                  clear hfin hsucc
                  have HOA := Lib.hid (HO.out.alloc (.cells (ranCells r).toArray 80))
                  have hqs : wq.heap.size ≤ wr.heap.size := HS.out
                  go_wp2_with (at_builtin; refine wpList_append_own_at _ rfl (.tmp 112) (.tmp 118) _ rfl wq.heap.size 80 i0 _ 3 24 Try.underlying72 I0.out Z0.out Z1.out Z2.out rfl (by omega) u16 n (ransOf (finR t s0 n).2 n) rfl HOA.out ⟨wr.heap.size, 0, none⟩ 1 1 (ranCells r) rfl rfl (cells_new_at _ _ _ _ rfl) (by simp [ranCells, Value.oneCell']) (by simp only [maxLen]; omega) (by omega) (by simp; omega) ?_; intro v1 w7 hown hgrow hnil hat; have HO7 := Lib.hid hown; have HG7 := Lib.hid hgrow; clear hown hgrow hnil hat)
                  go_roundg (gn - 1)
                  case rel =>
                    have hc7 : Chg u16.ownBlock.toList wr w7 := ((Chg.refl _ wr).alloc _).grown HG7.out (fun b hb => .inl (by simp [hb]))
                    have hnot : ∀ b, b < wq.heap.size → b ∉ u16.ownBlock.toList := fun b hb hm => by
                      have := (HO.out.lt b (by simpa using hm)).1
                      omega
                    refine ⟨n + 1, by have := HN.out; omega, by go_num, ?_, ?_, HV.out.chg hc7 (hnot _ HV0.out), ?_, HC.out.trans' hc7 ?_, Nat.le_trans hqs hc7.size⟩
                    · rw [HFIN.out]; exact HR.out.chg hc7 (hnot _ HG0.out)
                    · rw [HFIN.out]; exact HB.out.chg hc7 (hnot _ HB0.out)
                    · rw [HSU.out]; exact HO7.out
                    · intro b hb
                      have := (HO.out.lt b (by simpa using hb)).1
                      have := HV0.out
                      exact .inr (by omega)
                  case measure => have := HN.out; omega
            · obtain rfl : n = k := by have := HN.out; omega
              clear hlt
              rw [← HRACE.out] at HB HO
              go_wp2_with fail
              refine (view_any _ bb t _ HB.out).mono ?_
              rintro e w7 ⟨rfl, hc7⟩
              have hv7 := HV.out.chg hc7 (by simp)
              obtain ⟨⟨c0, c1, c2, c3⟩, f0, f1, f2, f3⟩ := hv7.four
              have HC7 : Hid (Chg [] w w7) := HC.out.trans hc7
              have HO7 := Lib.hid (own_base (b' := w.heap.size) (ownsRow_chg HO.out hc7 (by simp)) (by have := HV0.out; omega))
              have HOK := Lib.hid HB.out.v
              have hnb : u16.ownBlock ≠ some (w.heap.size + 1) := fun e => by
                have := (HO.out.lt _ e).1
                have := HV0.out
                omega
              have HNB := Lib.hid hnb
              clear hc7 hv7 hnb
              generalize raceR t cs n xs j = z at *
              unfold av
              go_wp2_with fail
              refine bodyPost_ret (v := .tuple #[u16, av z.1, .int .i64 0]) (by unfold av; simp only [results, Try.results32]; go_simp) rfl ?_
              have hset : Chg [w.heap.size + 1] w7 ((((w7.setCell ⟨w.heap.size + 1, 0, none⟩ (.int .u8 z.1.st)).setCell ⟨w.heap.size + 1, 1, none⟩ (.int .i64 z.1.turn)).setCell ⟨w.heap.size + 1, 2, none⟩ (.int .i64 z.1.fails)).setCell ⟨w.heap.size + 1, 3, none⟩ (.int .i64 z.1.at_)) :=
                ((((Chg.refl _ _).setCell (.inl (by simp)) _).setCell (.inl (by simp)) _).setCell (.inl (by simp)) _).setCell (.inl (by simp)) _
              refine .inl ⟨HGD.out, u16, rfl, ownsRow_chg HO7.out hset (fun b hb hm => ?_), HOK.out, HC7.out.trans' hset (by simp)⟩
              obtain rfl : b = w.heap.size + 1 := by simpa using hm
              exact HNB.out hb
end Go.Proofs.Ythbeednmekajaaa
