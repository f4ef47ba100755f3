/-
  A supervisor made anew, with one child.
-/
import Derived.Test.YtnlgiodhfmcaaaaGreatDoorSag8
namespace Go.Proofs.YtnlgiodhfmcaaaaGreatDoor
open Go.RowKit

theorem own_low {w : World} {base base' : Nat} {e : TypeId} {size n : Nat} {v : Value} {xs : List Value} (h : w.ownsRow base e size v n xs) (hb : base' ≤ base) : w.ownsRow base' e size v n xs := by
  obtain ⟨h1, h2⟩ := h
  refine ⟨h1, ?_⟩
  rcases h2 with h2 | ⟨g, cap, cur, hv, hg, r⟩
  · exact .inl h2
  · exact .inr ⟨g, cap, cur, hv, Nat.le_trans hb hg, r⟩

set_option maxRecDepth 100000 in
set_option maxHeartbeats 1000000 in
theorem new_ok (a c : Nat) (w : World) (ha : a < w.heap.size) (hc : w.cell? ⟨a, 0, none⟩ = some (.int .u8 1)) :
    Calls Tryz.prog 12 #[.agg #[.int .u8 2, .slice (some ⟨a, 0, none⟩) 1 c, .int .i64 1, .int .i64 4611686018427387904, .int .u8 0]] w fun e w' =>
      ∃ g cb cc A k, e = .returned (.tuple #[.pointer (some ⟨g, 0, none⟩), .slice A 1 k, .int .i64 0]) ∧ Sup w' w.heap.size g cb cc true 1 [] [] 0 0 false false (.slice none 0 0) (.slice none 0 0) 0 ∧ Below w.heap.size w w' := by
  have HA := Lib.hid hc
  clear hc
  go_enter Tryz.func12, Tryz.ntmps12
  go_wp2_with fail
  have hb : Blk (w.alloc (.cells #[.int .u8 2, .slice (some ⟨a, 0, none⟩) 1 c, .int .i64 1, .int .i64 4611686018427387904, .int .u8 0] 44)) w.heap.size 44 _ := Blk.new _ _ _
  have hc1 : Chg [] w (w.alloc (.cells #[.int .u8 2, .slice (some ⟨a, 0, none⟩) 1 c, .int .i64 1, .int .i64 4611686018427387904, .int .u8 0] 44)) := (Chg.refl [] w).alloc _
  refine (may_ok a c _ (Nat.lt_of_lt_of_le ha hc1.size) ((hc1.cell (p := ⟨a, 0, none⟩) ha (by simp)).trans HA.out)).mono ?_
  rintro e w1 ⟨rfl, hd⟩
  have hb1 := hb.chg hd (by simp)
  have p0 := hb1.cell 0
  have p1 : w1.cell? ⟨w.heap.size, 1, none⟩ = some (.slice (some ⟨a, 0, none⟩) 1 c) := hb1.cell 1
  have p2 : w1.cell? ⟨w.heap.size, 2, none⟩ = some (.int .i64 1) := hb1.cell 2
  have p3 : w1.cell? ⟨w.heap.size, 3, none⟩ = some (.int .i64 4611686018427387904) := hb1.cell 3
  have p4 : w1.cell? ⟨w.heap.size, 4, none⟩ = some (.int .u8 0) := hb1.cell 4
  have p0 : w1.cell? ⟨w.heap.size, 0, none⟩ = some (.int .u8 2) := hb1.cell 0
  have hpl := hb1.lt
  have HB1 := Lib.hid hb1; have HC1 := Lib.hid (hc1.trans hd)
  clear hb hc1 hd hb1
  go_wp2_with fail
  have hg2 : Blk (w1.alloc (.cells (supC (.slice none 0 0) (.slice none 0 0) (.slice none 0 0) 0 false false) 58)) w1.heap.size 58 (supC (.slice none 0 0) (.slice none 0 0) (.slice none 0 0) 0 false false) := Blk.new _ _ _
  have hc2 : Chg [] w (w1.alloc (.cells (supC (.slice none 0 0) (.slice none 0 0) (.slice none 0 0) 0 false false) 58)) := HC1.out.alloc _
  have hq := (hc2.cell (p := ⟨a, 0, none⟩) ha (by simp)).trans HA.out
  have hal := Nat.lt_of_lt_of_le ha hc2.size
  have hsz : w.heap.size ≤ w1.heap.size := HC1.out.size
  clear p0 p1 p2 p3 p4
  refine forget (P := fun W => Code.wp _ _ _ _ W) _ (fun W => Blk W w1.heap.size 58 (supC (.slice none 0 0) (.slice none 0 0) (.slice none 0 0) 0 false false) ∧ Chg [] w W ∧ W.cell? ⟨a, 0, none⟩ = some (.int .u8 1) ∧ a < W.heap.size) ⟨hg2, hc2, hq, hal⟩ ?_
  clear hg2 hc2 hq hal
  rintro w2 ⟨hg2, hc2, hq, hal⟩
  have HG2 := Lib.hid hg2; have HC2 := Lib.hid hc2
  clear hg2 hc2
  generalize w1.heap.size = g at *
  go_loopg [21] 1 (fun gk i wr => (gk = 1 ∧ i = .int .i64 0 ∧ wr = w2) ∨ (gk = 0 ∧ i = .int .i64 1 ∧ (∃ cb cc outV, Sup wr w.heap.size g cb cc true (0 + 1) [] ([] ++ evC 1 0 (0 + 1)) (0 + 1) 0 false false (.slice none 0 0) outV 0) ∧ Below w.heap.size w wr))
  case atStart => exact .inl ⟨rfl, rfl, rfl⟩
  case round =>
    rcases hrel with ⟨hk, rfl, rfl⟩ | ⟨hk, rfl, ⟨cb, cc, outV, hs⟩, hb⟩
    · have HK := Lib.hid hk
      have g5 : wr.cell? ⟨g, 5, none⟩ = some (.slice none 0 0) := HG2.out.cell 5
      have hgl := HG2.out.lt
      have hBw2 := HC2.out.size
      obtain ⟨i0, hi0, hz0, hz1, hz2⟩ := info_parts child_info
      have I0 := Lib.hid hi0
      have Z0 := Lib.hid hz0; have Z1 := Lib.hid hz1; have Z2 := Lib.hid hz2
      clear hk hi0 hz0 hz1 hz2
      go_wp2_with (at_builtin; refine wpList_append_own_at _ rfl (.tmp 30) (.tmp 33) _ rfl wr.heap.size 65 i0 _ 3 16 Tryz.underlying55 I0.out Z0.out Z1.out Z2.out rfl (by omega) (.slice none 0 0) 0 [] rfl (World.ownsRow_nil _ _ _ _) ⟨wr.heap.size, 0, none⟩ 1 1 (chC false 0) rfl rfl (cells_new_at wr _ _ _ rfl) (by simp [chC, Value.oneCell']) (by simp only [maxLen]; omega) (by omega) (by simp) ?_; intro v5 w5 hown hgrow hnl hat; obtain ⟨gn, cg, rfl, hgn, _⟩ := hown.form (by omega); have hc5 : Chg [] wr w5 := ((Chg.refl [] wr).alloc _).grown hgrow (fun k hk => by simp [Value.ownBlock] at hk); have hb5 := HG2.out.chg hc5 (by simp); have c75 : w5.cell? ⟨g, 5, none⟩ = some (.slice none 0 0) := hb5.cell 5; have f75 := hb5.frozen 5; have HC5 := Lib.hid hc5; have HO5 := Lib.hid hown; have HB5 := Lib.hid hb5; clear hb5 hgrow hown hat hnl hc5)
      have hset : Chg [g] w5 (w5.setCell ⟨g, 5, none⟩ (.slice (some ⟨gn, 0, none⟩) 1 cg)) := (Chg.refl [g] w5).setCell (.inl (by simp)) _
      have hS : Sup (w5.setCell ⟨g, 5, none⟩ (.slice (some ⟨gn, 0, none⟩) 1 cg)) w.heap.size g gn cg false 0 [] [] 0 0 false false (.slice none 0 0) (.slice none 0 0) 0 :=
        ⟨Blk.set_ HB5.out 5 _, ownsRow_chg (own_low HO5.out hBw2) hset (fun b hb hm => by
          obtain rfl : gn = b := by simpa [Value.ownBlock] using hb
          have : gn = g := by simpa using hm
          omega), World.ownsRow_nil _ _ _ _, World.ownsRow_nil _ _ _ _, hsz⟩
      have hbl : Below w.heap.size w (w5.setCell ⟨g, 5, none⟩ (.slice (some ⟨gn, 0, none⟩) 1 cg)) := ((HC2.out.trans HC5.out).setCell (p := ⟨g, 5, none⟩) (.inr hsz) _).below (Nat.le_refl _) (by simp)
      refine (start_any _ _ g gn cg false 0 [] [] 0 0 false false _ _ 0 hS (by omega) (by omega)).mono ?_
      rintro e w8 ⟨rfl, ⟨outV8, hs8⟩, hb8⟩
      have HS8 := Lib.hid hs8; have HB8 := Lib.hid (hbl.trans hb8)
      clear hs8 hb8 hS hbl hset
      go_wp2_with fail
      go_roundg (gk - 1)
      case rel => exact .inr ⟨by have := HK.out; omega, rfl, ⟨_, _, _, HS8.out⟩, HB8.out⟩
      case measure => have := HK.out; omega
    · have HS := Lib.hid hs; have HB := Lib.hid hb
      clear hs hb
      go_wp2_with fail
      refine (events_any HS.out).mono ?_
      rintro e w9 ⟨⟨A, k, rfl⟩, hs9, hb9, _⟩
      have HS9 := Lib.hid hs9; have HB9 := Lib.hid (HB.out.trans hb9)
      clear hs9 hb9
      go_wp2_with fail
      refine bodyPost_ret (v := .tuple #[.pointer (some ⟨g, 0, none⟩), .slice A (0 + 1) k, .int .i64 0]) (by simp only [results, Tryz.results12]; go_simp) rfl ?_
      exact ⟨g, cb, cc, A, k, rfl, HS9.out, HB9.out⟩
end Go.Proofs.YtnlgiodhfmcaaaaGreatDoor
