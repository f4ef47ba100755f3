import Derived.Test.YthbeednmekajaaaOrd8
import Derived.Deep.CutBlock
namespace Go.Proofs.Ythbeednmekajaaa
open Go.RowKit

set_option maxRecDepth 100000 in
set_option maxHeartbeats 4000000 in
theorem walk_order (t0 : T) (A : Option Addr) (len cap : Nat) (B : Option Addr) (sl sc : Nat) (w : World) (cs : Nat → Cl) (xs : Nat → Int) (hlen : len ≤ 4398046511104) (hsl : sl ≤ 17592186044416) (hcs : ClsAt w A len cs) (hxs : IntsAt w B sl xs) :
    Calls Try.prog 8 #[.agg #[.int .i64 t0.F, .int .i64 t0.W, .int .i64 t0.S], .slice A len cap, .slice B sl sc] w fun e w' => e = .returned (.bool true) ∧ Below w.heap.size w w' := by
  have HCS := Lib.hid hcs; have HXS := Lib.hid hxs
  clear hcs hxs
  obtain ⟨i0, hi0, hz0, hz1, hz2⟩ := info_parts call_info
  have I0 := Lib.hid hi0
  have Z0 := Lib.hid hz0; have Z1 := Lib.hid hz1; have Z2 := Lib.hid hz2
  clear hi0 hz0 hz1 hz2
  go_enter Try.func8, Try.ntmps8
  go_wp2_with fail
  refine (works_any _).mono ?_
  rintro e w1 ⟨rfl, hc1⟩
  have hb1 := (Blk.new w 41 #[.int .i64 t0.F, .int .i64 t0.W, .int .i64 t0.S]).chg hc1 (by simp)
  obtain ⟨⟨a0, a1, a2⟩, -⟩ := hb1.three
  have HC1 : Hid (Chg [] w w1) := ((Chg.refl _ _).alloc _).trans hc1
  clear hb1 hc1
  go_wp2_with fail
  refine (few_any t0 _).mono ?_
  rintro e w2 ⟨rfl, hc2⟩
  have HC2 : Hid (Chg [] w w2) := HC1.out.trans hc2
  have HTOK := Lib.hid (few_ok t0)
  clear hc2 a0 a1 a2 HC1
  generalize fewT t0 = t at *
  go_upto_block 0 with fail
  go_cut [9, 8, 10] from 26 to 67 (fun i o _ wr => i = .int .i64 ((min len 40 : Nat) : Int) ∧ wr.ownsRow (w2.heap.size + 1) 77 4 o (min len 40) (crow (mild cs) (min len 40)) ∧ Blk wr w2.heap.size 46 #[.int .i64 t.F, .int .i64 t.W, .int .i64 t.S] ∧ Chg [] w wr)
  case first =>
   go_wp2_with fail
   go_loopg [9, 8] (min len 40) (fun gk i o wr => ∃ k : Nat, k + gk = min len 40 ∧ i = .int .i64 k ∧ wr.ownsRow (w2.heap.size + 1) 77 4 o k (crow (mild cs) k) ∧ Blk wr w2.heap.size 46 #[.int .i64 t.F, .int .i64 t.W, .int .i64 t.S] ∧ Chg [] w wr)
   case atStart => exact ⟨0, by omega, rfl, World.ownsRow_nil _ _ _ _, Blk.new _ _ _, HC2.out.alloc _⟩
   case round =>
     obtain ⟨k, hk, rfl, hO, hT, hC⟩ := hrel
     have HK := Lib.hid hk; have HO := Lib.hid hO; have HC := Lib.hid hC; have HTB := Lib.hid hT
     clear hk hO hC hT
     by_cases hlt : k < min len 40
     · obtain ⟨b, off, rfl, hb, hcl⟩ := HCS.out (by omega)
       have hb' : b < wr.heap.size := Nat.lt_of_lt_of_le hb HC.out.size
       obtain ⟨x0, x1, x2, x3⟩ := (hcl k (by omega)).chg HC.out hb (by simp)
       have hkl : (k : Int) < (len : Int) := by omega
       have hk40 : (k : Int) < 40 := by omega
       have hk40' : k < 40 := by omega
       have hkl' : k < len := by omega
       have hqs : w2.heap.size < wr.heap.size := HTB.out.lt
       obtain ⟨A8, cap8, h8⟩ := own_slice HO.out
       subst h8
       have hkr := crow_cls HO.out
       have HKR := Lib.hid hkr
       clear hcl hkr hlt
       have p1 := fun W => pick_any (cs k).now 200 (by decide) (by decide) W
       rcases mild_cases cs k with ⟨rfl, hm⟩ | ⟨hp, j, hjk, hj, hcase⟩
       · have HM := Lib.hid hm
         simp only [Nat.zero_mul, Nat.add_zero] at x0 x1 x2 x3
         clear hm
         go_wp2_with fail
         refine (p1 _).mono ?_
         rintro e w' ⟨rfl, rfl⟩
         go_wp2_with fail
         refine (pick_any (cs 0).of_ 1 (by decide) (by decide) _).mono ?_
         rintro e w' ⟨rfl, rfl⟩
         have h1 : (cs 0).of_ % 1 = 0 := by omega
         rw [h1]
         clear h1 p1
         go_wp2_with (at_builtin; refine wpList_append_own_at _ rfl (.tmp 64) (.tmp 66) _ rfl (w2.heap.size + 1) 77 i0 _ 4 32 Try.underlying70 I0.out Z0.out Z1.out Z2.out rfl (by omega) (.slice A8 0 cap8) 0 (crow (mild cs) 0) rfl ((HO.out.alloc _).alloc _) ⟨wr.heap.size + 1, 0, none⟩ 1 1 (ccells ⟨false, 0, (cs 0).ok, (cs 0).now % 200⟩) rfl rfl (cells_new_at _ _ _ _ (by simp)) (by simp [ccells, Value.oneCell']) (by simp only [maxLen]; omega) (by omega) (by simp; omega) ?_; intro v1 w7 hown hgrow hnil hat; have HO7 := Lib.hid hown; have HG7 := Lib.hid hgrow; clear hown hgrow hnil hat)
         go_roundg (gk - 1)
         case rel =>
           have hc7 : Chg (Value.slice A8 0 cap8).ownBlock.toList wr w7 := (((Chg.refl _ wr).alloc _).alloc _).grown HG7.out (fun b hb => .inl (by simp [hb]))
           refine ⟨0 + 1, by have := HK.out; omega, by go_num, ?_, HTB.out.chg hc7 (own_not HO.out HTB.out (by decide)), HC.out.trans' hc7 (fun b hb => .inr (by have := (HO.out.lt b (by simpa using hb)).1; have := HC2.out.size; omega))⟩
           rw [crow_succ, HM.out]
           exact HO7.out
         case measure => have := HK.out; omega
       · have hk0 : ((k : Int) == 0) = false := by simp; omega
         rcases hcase with ⟨hd, hm⟩ | ⟨hd, hjd, hm⟩ | ⟨hd, hjd, hm⟩
         · have HM := Lib.hid hm
           rw [hd] at x0
           clear hm hd
           go_wp2_with fail
           refine (p1 _).mono ?_
           rintro e w' ⟨rfl, rfl⟩
           go_wp2_with fail
           all_goals first
             | ((with_reducible refine (pick_any (cs k).of_ k (by omega) (by omega) _).mono ?_); rintro e w' ⟨rfl, rfl⟩; rw [hj])
             | ((with_reducible refine (pick_any (cs k).of_ 1 (by decide) (by decide) _).mono ?_); rintro e w' ⟨rfl, rfl⟩; rw [show (cs k).of_ % 1 = (j : Int) by omega])
           all_goals
             go_wp2_with (at_builtin; refine wpList_append_own_at _ rfl (.tmp 64) (.tmp 66) _ rfl (w2.heap.size + 1) 77 i0 _ 4 32 Try.underlying70 I0.out Z0.out Z1.out Z2.out rfl (by omega) (.slice A8 k cap8) k (crow (mild cs) k) rfl ((HO.out.alloc _).alloc _) ⟨wr.heap.size + 1, 0, none⟩ 1 1 (ccells ⟨false, j, (cs k).ok, (cs k).now % 200⟩) rfl rfl (cells_new_at _ _ _ _ (by simp)) (by simp [ccells, Value.oneCell']) (by simp only [maxLen]; omega) (by omega) (by simp; omega) ?_; intro v1 w7 hown hgrow hnil hat; have HO7 := Lib.hid hown; have HG7 := Lib.hid hgrow; clear hown hgrow hnil hat)
             go_roundg (gk - 1)
             case rel =>
               have hc7 : Chg (Value.slice A8 k cap8).ownBlock.toList wr w7 := (((Chg.refl _ wr).alloc _).alloc _).grown HG7.out (fun b hb => .inl (by simp [hb]))
               refine ⟨k + 1, by have := HK.out; omega, by go_num, ?_, HTB.out.chg hc7 (own_not HO.out HTB.out (by decide)), HC.out.trans' hc7 (fun b hb => .inr (by have := (HO.out.lt b (by simpa using hb)).1; have := HC2.out.size; omega))⟩
               rw [crow_succ, HM.out]
               exact HO7.out
             case measure => have := HK.out; omega
         · have HM := Lib.hid hm
           rw [hd] at x0
           clear hm hd
           have hcj := HKR.out hp
           obtain ⟨g8, off8, rfl, hg8, hcl8⟩ := hcj
           obtain ⟨y0, -⟩ := hcl8 j hjk
           rw [hjd] at y0
           have hjk' : (j : Int) < (k : Int) := by omega
           clear hcl8 hjd
           go_wp2_with fail
           refine (p1 _).mono ?_
           rintro e w' ⟨rfl, rfl⟩
           go_wp2_with fail
           all_goals first
             | ((with_reducible refine (pick_any (cs k).of_ k (by omega) (by omega) _).mono ?_); rintro e w' ⟨rfl, rfl⟩; rw [hj])
             | ((with_reducible refine (pick_any (cs k).of_ 1 (by decide) (by decide) _).mono ?_); rintro e w' ⟨rfl, rfl⟩; rw [show (cs k).of_ % 1 = (j : Int) by omega])
           all_goals
             go_wp2_with (at_builtin; refine wpList_append_own_at _ rfl (.tmp 64) (.tmp 66) _ rfl (w2.heap.size + 1) 77 i0 _ 4 32 Try.underlying70 I0.out Z0.out Z1.out Z2.out rfl (by omega) (.slice (some ⟨g8, off8, none⟩) k cap8) k (crow (mild cs) k) rfl ((HO.out.alloc _).alloc _) ⟨wr.heap.size + 1, 0, none⟩ 1 1 (ccells ⟨false, j, (cs k).ok, (cs k).now % 200⟩) rfl rfl (cells_new_at _ _ _ _ (by simp)) (by simp [ccells, Value.oneCell']) (by simp only [maxLen]; omega) (by omega) (by simp; omega) ?_; intro v1 w7 hown hgrow hnil hat; have HO7 := Lib.hid hown; have HG7 := Lib.hid hgrow; clear hown hgrow hnil hat)
             go_roundg (gk - 1)
             case rel =>
               have hc7 : Chg (Value.slice (some ⟨g8, off8, none⟩) k cap8).ownBlock.toList wr w7 := (((Chg.refl _ wr).alloc _).alloc _).grown HG7.out (fun b hb => .inl (by simp [hb]))
               refine ⟨k + 1, by have := HK.out; omega, by go_num, ?_, HTB.out.chg hc7 (own_not HO.out HTB.out (by decide)), HC.out.trans' hc7 (fun b hb => .inr (by have := (HO.out.lt b (by simpa using hb)).1; have := HC2.out.size; omega))⟩
               rw [crow_succ, HM.out]
               exact HO7.out
             case measure => have := HK.out; omega
         · have HM := Lib.hid hm
           rw [hd] at x0
           clear hm hd
           have hcj := HKR.out hp
           obtain ⟨g8, off8, rfl, hg8, hcl8⟩ := hcj
           obtain ⟨y0, -⟩ := hcl8 j hjk
           rw [hjd] at y0
           have hjk' : (j : Int) < (k : Int) := by omega
           clear hcl8 hjd
           go_wp2_with fail
           refine (p1 _).mono ?_
           rintro e w' ⟨rfl, rfl⟩
           go_wp2_with fail
           all_goals first
             | ((with_reducible refine (pick_any (cs k).of_ k (by omega) (by omega) _).mono ?_); rintro e w' ⟨rfl, rfl⟩; rw [hj])
             | ((with_reducible refine (pick_any (cs k).of_ 1 (by decide) (by decide) _).mono ?_); rintro e w' ⟨rfl, rfl⟩; rw [show (cs k).of_ % 1 = (j : Int) by omega])
           all_goals
             go_wp2_with (at_builtin; refine wpList_append_own_at _ rfl (.tmp 64) (.tmp 66) _ rfl (w2.heap.size + 1) 77 i0 _ 4 32 Try.underlying70 I0.out Z0.out Z1.out Z2.out rfl (by omega) (.slice (some ⟨g8, off8, none⟩) k cap8) k (crow (mild cs) k) rfl ((HO.out.alloc _).alloc _) ⟨wr.heap.size + 1, 0, none⟩ 1 1 (ccells ⟨true, j, (cs k).ok, (cs k).now % 200⟩) rfl rfl (cells_new_at _ _ _ _ (by simp)) (by simp [ccells, Value.oneCell']) (by simp only [maxLen]; omega) (by omega) (by simp; omega) ?_; intro v1 w7 hown hgrow hnil hat; have HO7 := Lib.hid hown; have HG7 := Lib.hid hgrow; clear hown hgrow hnil hat)
             go_roundg (gk - 1)
             case rel =>
               have hc7 : Chg (Value.slice (some ⟨g8, off8, none⟩) k cap8).ownBlock.toList wr w7 := (((Chg.refl _ wr).alloc _).alloc _).grown HG7.out (fun b hb => .inl (by simp [hb]))
               refine ⟨k + 1, by have := HK.out; omega, by go_num, ?_, HTB.out.chg hc7 (own_not HO.out HTB.out (by decide)), HC.out.trans' hc7 (fun b hb => .inr (by have := (HO.out.lt b (by simpa using hb)).1; have := HC2.out.size; omega))⟩
               rw [crow_succ, HM.out]
               exact HO7.out
             case measure => have := HK.out; omega
     · have hkn : k = min len 40 := by have := HK.out; omega
       have hxx : ¬ k < len ∨ (k < len ∧ ¬ k < 40) := by omega
       have HKN := Lib.hid hkn
       clear hkn hlt
       rcases hxx with h1 | ⟨h1, h2⟩
       all_goals
         first | (have h1' : ¬ (k : Int) < (len : Int) := (by omega)) | (have h1' : (k : Int) < (len : Int) := (by omega); have h2' : ¬ (k : Int) < 40 := (by omega))
         go_wp2_with fail
         go_meet
         exact ⟨by rw [← HKN.out], by rw [← HKN.out]; exact HO.out, HTB.out, HC.out⟩
  case rest =>
    obtain ⟨rfl, hO, hT, hC⟩ := hcut
    obtain ⟨k, hkk⟩ : ∃ k, k = min len 40 := ⟨_, rfl⟩
    have hk40 : k ≤ 40 := by omega
    have hkl : k ≤ len := by omega
    rw [← hkk] at hO ⊢
    clear hkk HC2 I0 Z0 Z1 Z2 HCS
    have hqs := hT.lt
    obtain ⟨A8, cap8, h8⟩ := own_slice hO
    subst h8
    have hcl := crow_cls hO
    obtain ⟨⟨a0, a1, a2⟩, -⟩ := hT.three
    have HCL := Lib.hid hcl; have HO := Lib.hid hO; have HTB := Lib.hid hT; have HC := Lib.hid hC
    clear hcl hO hT hC
    go_wp2_with fail
    refine (race_any t A8 k cap8 B sl sc _ (mild cs) xs (by omega) HCL.out (HXS.out.chg HC.out)).mono ?_
    rintro e w3 ⟨v3, rfl, hO3, hc3⟩
    rw [show outR t (mild cs) k xs sl = ((raceR t (mild cs) k xs sl).2, (raceR t (mild cs) k xs sl).1, 0) from if_pos ⟨HTOK.out, by omega, mild_good cs k⟩] at hO3 ⊢
    have HOK := Lib.hid hk40
    have HO3 := Lib.hid hO3; have HC3 := Lib.hid hc3
    have HTB3 := Lib.hid (HTB.out.chg hc3 (by simp))
    have HCW3 := Lib.hid (HC.out.trans hc3)
    have HOC := Lib.hid (ownsRow_chg HO.out hc3 (by simp))
    clear hO3 hc3 a0 a1 a2
    have hlr := raceR_len (t := t) (xs := xs) (n := sl) (mild_good cs k)
    have HLR := Lib.hid hlr; clear hlr
    have hx3 := HO3.out
    simp only [HLR.out] at hx3 ⊢
    have HR3 := Lib.hid hx3
    obtain ⟨A3, cap3, h3⟩ := own_slice hx3
    clear HO3 hx3
    subst h3
    unfold av
    obtain ⟨⟨a0, a1, a2⟩, -⟩ := (HTB3.out).three
    have hq3 := HTB3.out.lt
    go_wp2_with fail
    refine (ordered_any t A8 k cap8 B sl sc _ (mild cs) xs HTOK.out (by omega) (by omega) ((HCL.out.chg HC3.out).chg ((Chg.refl _ _).alloc _)) (HXS.out.chg ((HCW3.out).alloc _)) (mild_good cs k)).mono ?_
    rintro e w4 ⟨v4, rfl, hO4, hc4⟩
    have hol := order_len t (mild cs) k xs sl (mild_good cs k) ⟨_, init_sims t (mild cs) k⟩
    have hord := (order_ord t (mild cs) k xs sl ⟨_, init_sims t (mild cs) k⟩).plays.at_
    obtain ⟨f, f0, f1, f2⟩ := hord
    rw [hol] at hO4 f1
    obtain ⟨A4, cap4, h4⟩ := own_slice hO4
    subst h4
    have hb4 := (HTB3.out.alloc _).chg hc4 (by simp)
    obtain ⟨⟨b0, b1, b2⟩, -⟩ := hb4.three
    have hz4 := (Blk.new w3 _ _).chg hc4 (by simp)
    have HZ4 := Lib.hid hz4
    clear a0 a1 a2
    have hq4 := hb4.lt
    have HO4 := Lib.hid hO4; have HC4 := Lib.hid hc4; have HF1 := Lib.hid f1; have HF2 := Lib.hid f2; have HF0 := Lib.hid f0; have HOL := Lib.hid hol
    clear hO4 hc4 f1 f2 f0 hb4 hz4 hol
    go_wp2_with fail
    refine (new_yes t _ HTOK.out).mono ?_
    rintro e w5 ⟨bb, hbb, rfl, hB5, hc5⟩
    have hH4 : wc.heap.size ≤ w3.heap.size := HC3.out.size
    have HB5 := Lib.hid hB5
    have HZ5 := Lib.hid (HZ4.out.chg hc5 (by simp))
    have HO5 := Lib.hid (ownsRow_chg HO4.out hc5 (by simp))
    have HR5 := Lib.hid (ownsRow_chg (ownsRow_chg (HR3.out.alloc _) HC4.out (by simp)) hc5 (by simp))
    have HI5 := Lib.hid (ownsRow_chg (ownsRow_chg (HOC.out.alloc _) HC4.out (by simp)) hc5 (by simp))
    have HW5 := Lib.hid (((HCW3.out.alloc _).trans HC4.out).trans hc5)
    have hs4 : w3.heap.size < w4.heap.size := HZ4.out.lt
    clear hB5 hc5 b0 b1 b2
    obtain ⟨wo, hwo⟩ : ∃ wo : World, wo = w5 := ⟨_, rfl⟩
    have hbw : w.heap.size ≤ bb := by have := HCW3.out.size; omega
    have hnb : ∀ (wr : World), w5.heap.size ≤ wr.heap.size → w3.heap.size ≠ bb := fun _ _ => by have := HZ4.out.lt; omega
    clear hwo
    go_wp2_with fail
    go_loopg [17] k (fun gk i wr => ∃ n : Nat, n + gk = k ∧ i = .int .i64 n ∧ Brk wr bb t (f n) ∧ Chg [bb] w5 wr)
    case atStart => exact ⟨0, by omega, rfl, by rw [HF0.out]; exact HB5.out, Chg.refl _ _⟩
    case round =>
      obtain ⟨n, hn, rfl, hB, hC5⟩ := hrel
      have HN := Lib.hid hn; have HB := Lib.hid hB; have HCR := Lib.hid hC5
      clear hn hB hC5
      have hsr : w5.heap.size ≤ wr.heap.size := HCR.out.size
      have HOr := Lib.hid (ownsRow_chg HO5.out HCR.out (own_off (own_not HO5.out HB5.out.b (by decide))))
      have HRr := Lib.hid (ownsRow_chg HR5.out HCR.out (own_off (own_not HR5.out HB5.out.b (by decide))))
      have HIr := Lib.hid (ownsRow_chg HI5.out HCR.out (own_off (own_not HI5.out HB5.out.b (by decide))))
      have HZr := Lib.hid (HZ5.out.chg HCR.out (by have := hnb wr hsr; simpa using this))
      by_cases hlt : n < k
      · have hi0 : n < (orderOf t (mild cs) k xs sl).length := by rw [HOL.out]; exact hlt
        have hii : (orderOf t (mild cs) k xs sl)[n]? = some ((orderOf t (mild cs) k xs sl)[n]'hi0) := List.getElem?_eq_getElem hi0
        generalize (orderOf t (mild cs) k xs sl)[n]'hi0 = i at hii
        obtain ⟨r, hr, hik, hcase⟩ := act_cases (mild_good cs k) (HF2.out n i hii)
        obtain ⟨go, capo, ho, hgo, co⟩ := order_cell HOr.out HOL.out hii
        have hRr : wr.ownsRow wc.heap.size 80 3 (.slice A3 k cap3) (raceR t (mild cs) k xs sl).2.length (ransOf (raceR t (mild cs) k xs sl).2 (raceR t (mild cs) k xs sl).2.length) := by rw [HLR.out]; exact HRr.out
        obtain ⟨gr, capr, hrr, hgr, r0, r1, -⟩ := rans_cells hRr hr
        obtain ⟨b8, off8, hA8, hb8, hcl8⟩ := crow_cls HIr.out (by omega)
        obtain ⟨x0, x1, x2, x3⟩ := hcl8 i hik
        have HRO : Hid (∀ (j : Nat) (o : R), (raceR t (mild cs) k xs sl).2[j]? = some o → wr.cell? ⟨gr, j * 3, none⟩ = some (.int .i64 o.rp) ∧ wr.cell? ⟨gr, j * 3 + 1, none⟩ = some (.int .i64 o.rc)) := by
          show ∀ (j : Nat) (o : R), _ → _
          intro j o hj
          obtain ⟨g', c', e', _, q0, q1, _⟩ := rans_cells hRr hj
          rw [hrr] at e'
          injection e' with e1 _ _
          injection e1 with e1
          injection e1 with e1
          subst e1
          exact ⟨q0, q1⟩
        injection ho with e1 _ e3
        subst e1 e3
        rw [HLR.out] at hrr
        injection hrr with e1 _ e3
        subst e1 e3
        subst hA8
        have hnk : (n : Int) < (k : Int) := by omega
        have hikI : (i : Int) < (k : Int) := by omega
        have HGR : Hid (gr ≠ bb) := by
          have := own_not HRr.out HB.out.b (by decide)
          exact fun e => this (by simp [e, Value.ownBlock])
        have HB19 : Hid (Blk (wr.alloc (.cells (ccells (mild cs i)).toArray 77)) wr.heap.size 77 (ccells (mild cs i)).toArray) := Blk.new _ _ _
        have hbl : bb < wr.heap.size := HB.out.b.lt
        clear hcl8 hRr hii hi0
        rcases hcase with ⟨hd, hal⟩ | ⟨hd, j, o, hof, hjk, hro, hcase⟩
        · rw [hd] at x0
          have HAL := Lib.hid hal
          clear hd hal
          go_wp2_with fail
          refine (Allow_any _ bb t (f n) (mild cs i).now (HB.out.alloc _)).mono ?_
          rintro e w6 ⟨rfl, hB6, hc6⟩
          simp only [HAL.out] at hB6 ⊢
          have q0 : w6.cell? ⟨gr, i * 3, none⟩ = some (.int .i64 r.rp) := ((((Chg.refl [bb] wr).alloc _).trans hc6).cell (by simpa using hgr) (by simpa using HGR.out)).trans r0
          have q1 : w6.cell? ⟨gr, i * 3 + 1, none⟩ = some (.int .i64 r.rc) := ((((Chg.refl [bb] wr).alloc _).trans hc6).cell (by simpa using hgr) (by simpa using HGR.out)).trans r1
          have HB6 := Lib.hid hB6
          have HC6 := Lib.hid (((Chg.refl [bb] wr).alloc _).trans hc6)
          have hgr6 : gr < w6.heap.size := by have := HC6.out.size; omega
          clear hB6 hc6 x0 x1 x2 x3 co r0 r1
          go_wp2_with fail
          go_roundg (gk - 1)
          case rel => exact ⟨n + 1, by have := HN.out; omega, by go_num, HB6.out, HCR.out.trans HC6.out⟩
          case measure => have := HN.out; omega
        · rw [hd] at x0
          rw [hof] at x1
          obtain ⟨o0, o1⟩ := HRO.out j o hro
          have hjkI : (j : Int) < (k : Int) := by omega
          rcases hcase with ⟨hz, h250, hv⟩ | ⟨hz, hdn⟩
          · have e0 : (o.rc != 0) = true := by simp [hz]
            rw [h250] at r1
            have HV := Lib.hid hv
            clear hv hz h250 hd hof
            go_wp2_with fail
            go_roundg (gk - 1)
            case rel => exact ⟨n + 1, by have := HN.out; omega, by go_num, by rw [HV.out]; exact HB.out.alloc _, HCR.out.alloc _⟩
            case measure => have := HN.out; omega
          · have HDN := Lib.hid hdn
            rw [hz] at o1
            clear hdn hz hd hof
            go_upto_region 33 with fail
            go_region_held3 (fun w' => w'.cell? ⟨wr.heap.size, 1, none⟩ = some (.int .i64 j) ∧ w'.cell? ⟨wr.heap.size, 2, none⟩ = some (.bool (mild cs i).ok) ∧ w'.cell? ⟨wr.heap.size, 3, none⟩ = some (.int .i64 (mild cs i).now) ∧ w'.cell? ⟨gr, j * 3, none⟩ = some (.int .i64 o.rp) ∧ w'.cell? ⟨gr, i * 3 + 1, none⟩ = some (.int .i64 r.rc))
              (first
                | go_keep
                | exact ⟨(hc6.cell (by simp) (by simp; omega)).trans (by simp), (hc6.cell (by simp) (by simp; omega)).trans (by simp), (hc6.cell (by simp) (by simp; omega)).trans (by simp), ((((Chg.refl [bb] wr).alloc _).drew.trans hc6).cell (by simpa using hgr) (by simpa using HGR.out)).trans o0, ((((Chg.refl [bb] wr).alloc _).drew.trans hc6).cell (by simpa using hgr) (by simpa using HGR.out)).trans r1⟩)
              (first
                | (go_at_call 29; refine (Done_any _ bb t (f n) o.rp (mild cs i).ok (mild cs i).now ((HB.out.alloc _).drew)).mono ?_; rintro e w6 ⟨rfl, hB6, hc6⟩; simp only [HDN.out] at hB6 ⊢))
            go_wp2_with fail
            go_roundg (gk - 1)
            case rel => exact ⟨n + 1, by have := HN.out; omega, by go_num, hB6, HCR.out.trans (((Chg.refl [bb] wr).alloc _).drew.trans hc6)⟩
            case measure => have := HN.out; omega
      · have hkn : n = k := by have := HN.out; omega
        subst hkn
        have hnn : ¬ (n : Int) < (n : Int) := by omega
        have hz := HZr.out
        rw [← HF1.out] at hz
        obtain ⟨⟨z0, z1, z2, z3⟩, -⟩ := hz.four
        have hs3r : w3.heap.size < wr.heap.size := HZr.out.lt
        clear hz hlt
        go_wp2_with fail
        go_region_held3 (fun w' => w'.cell? ⟨w3.heap.size, 0, none⟩ = some (.int .u8 (f n).st) ∧ w'.cell? ⟨w3.heap.size, 1, none⟩ = some (.int .i64 (f n).turn) ∧ w'.cell? ⟨w3.heap.size, 2, none⟩ = some (.int .i64 (f n).fails) ∧ w'.cell? ⟨w3.heap.size, 3, none⟩ = some (.int .i64 (f n).at_))
          (first
            | go_keep
            | exact ⟨(hc6.cell hs3r (by simp)).trans z0, (hc6.cell hs3r (by simp)).trans z1, (hc6.cell hs3r (by simp)).trans z2, (hc6.cell hs3r (by simp)).trans z3⟩)
          (first
            | (go_at_call 24; refine (view_any _ bb t (f n) HB.out.drew).mono ?_; rintro e w6 ⟨rfl, hc6⟩; simp only [av]))
        go_wp2_with fail
        go_ret
        refine ⟨rfl, ?_⟩
        have hH := (HW5.out.trans' HCR.out (fun i hi => .inr (by have : i = bb := by simpa using hi
                                                                 omega))).drew.trans hc6
        exact hH.below (Nat.le_refl _) (by simp)
end Go.Proofs.Ythbeednmekajaaa
