/-
  A supervisor stops its child; ends; a list of one number is sorted.
-/
import Derived.Test.YtnlgiodhfmcaaaaGreatDoorSag3
namespace Go.Proofs.YtnlgiodhfmcaaaaGreatDoor
open Go.RowKit

theorem int_info : (Tryz.prog.info? 3).map (fun i => (i.zero, i.size, i.bytes)) = some (some (.int .i64 0), 1, 8) := by kernel_rfl

def StopPost (w : World) (B g cb cc : Nat) (life : Int) (rs evs : List Value) (ne : Nat) (now : Int) (told ended : Bool) (rsV : Value) (nr : Nat) (e : Ending) (w' : World) : Prop :=
  (∃ v, e = .returned v) ∧ (∃ outV, Sup w' B g cb cc false life rs (evs ++ evC 2 0 life) (ne + 1) now told ended rsV outV nr) ∧ Below B w w'

set_option maxRecDepth 100000 in
set_option maxHeartbeats 1000000 in
theorem stop_up {w : World} {B g cb cc : Nat} {life : Int} {rs evs : List Value} {ne : Nat} {now : Int} {told ended : Bool} {rsV outV : Value} {nr : Nat} (h : Sup w B g cb cc true life rs evs ne now told ended rsV outV nr) (hne : ne ≤ 100) :
    Calls Tryz.prog 34 #[.pointer (some ⟨g, 0, none⟩), .int .i64 0] w (StopPost w B g cb cc life rs evs ne now told ended rsV nr) := by
  obtain ⟨a1, a2, a3, a4, a5⟩ := h.apart
  have g5 : w.cell? ⟨g, 5, none⟩ = some (.slice (some ⟨cb, 0, none⟩) 1 cc) := h.b.cell 5
  have k1 : w.cell? ⟨cb, 1, none⟩ = some (.bool true) := h.ch.cellAt 1 (by omega)
  have f1 := own_frozen h.ch (by omega) 1
  have s1 := h.child 1 (by omega) (.bool false) false life rfl
  have hBw : B ≤ w.heap.size := Nat.le_trans h.gB (Nat.le_of_lt h.b.lt)
  have hc : Chg [cb] w (w.setCell ⟨cb, 1, none⟩ (.bool false)) := (Chg.refl [cb] w).setCell (.inl (by simp)) _
  have HS := Lib.hid s1; have HC := Lib.hid hc
  clear h s1 a2 a3 a4 hc
  go_enter Tryz.func34, Tryz.ntmps34
  go_wp2_with fail
  go_loopg [5, 6] 1 (fun gk l i wr => (gk = 1 ∧ l = .slice none 0 0 ∧ i = .int .i64 0 ∧ wr = w) ∨ (gk = 0 ∧ i = .int .i64 (-1) ∧ (∃ outV, Sup wr B g cb cc false life rs (evs ++ evC 2 0 life) (ne + 1) now told ended rsV outV nr) ∧ Below B w wr))
  case atStart => exact .inl ⟨rfl, rfl, rfl, rfl⟩
  case round =>
    rcases hrel with ⟨hk, rfl, rfl, rfl⟩ | ⟨hk, rfl, hs, hb⟩
    · have HK := Lib.hid hk
      clear hk
      go_upto_region 8 with fail
      clear g5 k1 f1
      generalize wr.setCell ⟨cb, 1, none⟩ (.bool false) = w2 at *
      obtain ⟨b1, b2, b3, b4, b5⟩ := HS.out.apart
      have g10 : w2.cell? ⟨g, 10, none⟩ = some outV := HS.out.b.cell 10
      have k2 : w2.cell? ⟨cb, 2, none⟩ = some (.int .i64 life) := HS.out.ch.cellAt 2 (by omega)
      have hgl := HS.out.b.lt
      have hcl : cb < w2.heap.size := (HS.out.ch.lt cb rfl).2
      have hBw2 : B ≤ w2.heap.size := Nat.le_trans hBw HC.out.size
      have HB3 := Lib.hid b3; have HB2 := Lib.hid b2; have HB4 := Lib.hid b4
      obtain ⟨i0, hi0, hz0, hz1, hz2⟩ := info_parts event_info
      have I0 := Lib.hid hi0
      have Z0 := Lib.hid hz0; have Z1 := Lib.hid hz1; have Z2 := Lib.hid hz2
      obtain ⟨A, cap, hA⟩ := own_slice HS.out.ev
      subst hA
      clear hi0 hz0 hz1 hz2 b2 b3 b4
      refine wp_region_noPanic ?_
      go_region_law (refine step_append_lies _ rfl (.tmp 36) (.tmp 43) _ rfl B 102 i0 _ 3 24 Tryz.underlying32 I0.out Z0.out Z1.out Z2.out rfl (by omega) (.slice A ne cap) ne evs rfl (own_drew (HS.out.ev.alloc _)) ⟨w2.heap.size, 0, none⟩ 1 1 (evC 2 0 life) rfl rfl (news_drew_at w2 _ _ _ rfl) (by simp [evC, Value.oneCell']) (by omega) (by simp only [maxLen]; omega) (by omega) (by simp; omega) _ rfl ?_; intro gn cg w5 hown hgrow hat hlt'; have hb5 : Blk w5 g 58 _ := Blk.grown (HS.out.b.alloc _).drew hgrow (fun e => (HB3.out g e.symm).2 rfl); have c75 : w5.cell? ⟨g, 10, none⟩ = some (.slice A ne cap) := hb5.cell 10; have f75 := hb5.frozen 10; have HG5 := Lib.hid hgrow; have HO5 := Lib.hid hown; have HB5 := Lib.hid hb5; have HA5 := Lib.hid hat; clear hb5 hgrow hown hat)
      all_goals
        refine NoPanic.normal ?_
        have hc5 : Chg (Value.slice A ne cap).ownBlock.toList w2 w5 := (((Chg.refl _ w2).alloc _).drew).grown HG5.out (fun b hb => .inl (by simp [hb]))
        have hat5 : (Value.slice A ne cap).ownBlock = some gn ∨ w2.heap.size ≤ gn := HA5.out.imp id (fun e => by simp at e; omega)
        have hchg : Chg (cb :: g :: (Value.slice A ne cap).ownBlock.toList) wr (w5.setCell ⟨g, 10, none⟩ (.slice (some ⟨gn, 0, none⟩) (ne + 1) cg)) := ((HC.out.mono (by simp)).trans (hc5.mono (fun i hi => by simp [hi]))).setCell (.inl (by simp)) _
        have hbl : Below B wr (w5.setCell ⟨g, 10, none⟩ (.slice (some ⟨gn, 0, none⟩) (ne + 1) cg)) := hchg.below hBw (fun i hi => by
          simp only [List.mem_cons] at hi
          rcases hi with rfl | rfl | hi
          · exact b5
          · exact HS.out.gB
          · exact (HS.out.ev.lt i (by simpa using hi)).1)
        have hfin := HS.out.event hc5 HO5.out hat5
        have HF := Lib.hid hfin; have HBL := Lib.hid hbl
        clear hc5 hat5 hchg hbl hfin c75 f75 g10 k2
        generalize w5.setCell ⟨g, 10, none⟩ (.slice (some ⟨gn, 0, none⟩) (ne + 1) cg) = w6 at *
        obtain ⟨j0, hj0, hy0, hy1, hy2⟩ := info_parts int_info
        go_wp2_with (at_builtin; refine wpList_append_own_at _ rfl (.tmp 47) (.tmp 49) _ rfl w6.heap.size 3 j0 _ 1 8 Tryz.underlying25 hj0 hy0 hy1 hy2 rfl (by omega) (.slice none 0 0) 0 [] rfl (World.ownsRow_nil _ _ _ _) ⟨w6.heap.size, 0, none⟩ 1 1 [.int .i64 0] rfl rfl (cell_new_at w6 _ _ _ rfl) (by simp [Value.oneCell']) (by simp only [maxLen]; omega) (by omega) (by simp) ?_; intro v1 w7 hown hgrow hnl hat)
        have hc7 : Chg [] w6 w7 := ((Chg.refl [] w6).alloc _).grown hgrow (fun k hk => by simp [Value.ownBlock] at hk)
        have hs7 := HF.out.fresh hc7
        have hb7 : Below B wr w7 := by
          have h6 := HBL.out
          refine h6.trans (hc7.below (Nat.le_trans hBw h6.size) (by simp))
        go_roundg (gk - 1)
        case rel => exact .inr ⟨by have := HK.out; omega, rfl, ⟨_, hs7⟩, hb7⟩
        case measure => have := HK.out; omega
    · have HSX := Lib.hid hs; have HBX := Lib.hid hb
      clear hs hb
      go_wp2_with fail
      go_ret
      exact ⟨⟨_, rfl⟩, HSX.out, HBX.out⟩

section
variable {w : World} {B g cb cc ne nr : Nat} {up : Bool} {life now : Int} {rs evs : List Value} {told ended : Bool} {rsV outV : Value}
theorem Sup.end_ (h : Sup w B g cb cc up life rs evs ne now told ended rsV outV nr) : Sup (w.setCell ⟨g, 9, none⟩ (.bool true)) B g cb cc up life rs evs ne now told true rsV outV nr := by
  obtain ⟨a1, a2, a3, a4, a5⟩ := h.apart
  have hset : Chg [g] w (w.setCell ⟨g, 9, none⟩ (.bool true)) := (Chg.refl [g] w).setCell (.inl (by simp)) _
  refine ⟨Blk.set_ h.b 9 _, ownsRow_chg h.ch hset (fun b hb hm => ?_), ownsRow_chg h.rs hset (fun b hb hm => (a2 b hb).2 (by simpa using hm)), ownsRow_chg h.ev hset (fun b hb hm => (a3 b hb).2 (by simpa using hm)), h.gB⟩
  obtain rfl : cb = b := by simpa [Value.ownBlock] using hb
  exact a1 (by simpa using hm)
end

def EndsPost (w : World) (B g cb cc : Nat) (life : Int) (rs evs : List Value) (ne : Nat) (now : Int) (told : Bool) (rsV : Value) (nr : Nat) (e : Ending) (w' : World) : Prop :=
  e = .returned (.tuple #[]) ∧ (∃ outV, Sup w' B g cb cc false life rs (evs ++ evC 2 0 life ++ evC 3 (-1) 0) (ne + 1 + 1) now told true rsV outV nr) ∧ Below B w w'

set_option maxRecDepth 100000 in
set_option maxHeartbeats 1000000 in
theorem ends_up {w : World} {B g cb cc : Nat} {life : Int} {rs evs : List Value} {ne : Nat} {now : Int} {told ended : Bool} {rsV outV : Value} {nr : Nat} (h : Sup w B g cb cc true life rs evs ne now told ended rsV outV nr) (hne : ne ≤ 99) :
    Calls Tryz.prog 18 #[.pointer (some ⟨g, 0, none⟩)] w (EndsPost w B g cb cc life rs evs ne now told rsV nr) := by
  have H := Lib.hid h
  have hBw : B ≤ w.heap.size := Nat.le_trans h.gB (Nat.le_of_lt h.b.lt)
  clear h
  go_enter Tryz.func18, Tryz.ntmps18
  go_wp2_with fail
  refine (stop_up H.out (by omega)).mono ?_
  rintro e w1 ⟨⟨v, rfl⟩, ⟨outV1, hs⟩, hb⟩
  have c9 : w1.cell? ⟨g, 9, none⟩ = some (.bool ended) := hs.b.cell 9
  have f9 := hs.b.frozen 9
  have hs2 := hs.end_
  have hgl : g < w1.heap.size := hs.b.lt
  have hc2 : Chg [g] w1 (w1.setCell ⟨g, 9, none⟩ (.bool true)) := (Chg.refl [g] w1).setCell (.inl (by simp)) _
  have HS2 := Lib.hid hs2; have HB := Lib.hid hb; have HC2 := Lib.hid hc2
  clear hs hs2 hb hc2
  go_upto_region 2 with fail
  clear c9 f9
  generalize w1.setCell ⟨g, 9, none⟩ (.bool true) = w2 at *
  obtain ⟨b1, b2, b3, b4, b5⟩ := HS2.out.apart
  have g10 : w2.cell? ⟨g, 10, none⟩ = some outV1 := HS2.out.b.cell 10
  have hgl2 := HS2.out.b.lt
  have hBw2 : B ≤ w2.heap.size := Nat.le_trans (Nat.le_trans hBw HB.out.size) HC2.out.size
  have HB3 := Lib.hid b3
  obtain ⟨i0, hi0, hz0, hz1, hz2⟩ := info_parts event_info
  have I0 := Lib.hid hi0
  have Z0 := Lib.hid hz0; have Z1 := Lib.hid hz1; have Z2 := Lib.hid hz2
  obtain ⟨A, cap, hA⟩ := own_slice HS2.out.ev
  subst hA
  clear hi0 hz0 hz1 hz2 b2 b3 b4
  go_wp2_with (at_builtin; refine wpList_append_own_at _ rfl (.tmp 11) (.tmp 13) _ rfl B 102 i0 _ 3 24 Tryz.underlying32 I0.out Z0.out Z1.out Z2.out rfl (by omega) (.slice A (ne + 1) cap) (ne + 1) (evs ++ evC 2 0 life) rfl (HS2.out.ev.alloc _) ⟨w2.heap.size, 0, none⟩ 1 1 (evC 3 (-1) 0) rfl rfl (cells_new_at w2 _ _ _ rfl) (by simp [evC, Value.oneCell']) (by simp only [maxLen]; omega) (by omega) (by simp; omega) ?_; intro v5 w5 hown hgrow hnl hat; obtain ⟨gn, cg, rfl, _, _⟩ := hown.form (by omega); have hb5 : Blk w5 g 58 _ := Blk.grown (HS2.out.b.alloc _) hgrow (fun e => (HB3.out g e.symm).2 rfl); have c75 : w5.cell? ⟨g, 10, none⟩ = some (.slice A (ne + 1) cap) := hb5.cell 10; have f75 := hb5.frozen 10; have HG5 := Lib.hid hgrow; have HO5 := Lib.hid hown; have HB5 := Lib.hid hb5; have HA5 := Lib.hid hat; clear hb5 hgrow hown hat hnl)
  have hc5 : Chg (Value.slice A (ne + 1) cap).ownBlock.toList w2 w5 := ((Chg.refl _ w2).alloc _).grown HG5.out (fun b hb => .inl (by simp [hb]))
  have hat5 : (Value.slice A (ne + 1) cap).ownBlock = some gn ∨ w2.heap.size ≤ gn := HA5.out.imp (fun e => e.symm) (fun e => by simp [Value.ownBlock] at e; omega)
  have hchg : Chg (g :: (Value.slice A (ne + 1) cap).ownBlock.toList) w1 (w5.setCell ⟨g, 10, none⟩ (.slice (some ⟨gn, 0, none⟩) (ne + 1 + 1) cg)) := ((HC2.out.mono (by simp)).trans (hc5.mono (fun i hi => by simp [hi]))).setCell (.inl (by simp)) _
  have hbl : Below B w (w5.setCell ⟨g, 10, none⟩ (.slice (some ⟨gn, 0, none⟩) (ne + 1 + 1) cg)) := HB.out.trans (hchg.below (Nat.le_trans hBw HB.out.size) (fun i hi => by
    simp only [List.mem_cons] at hi
    rcases hi with rfl | hi
    · exact HS2.out.gB
    · exact (HS2.out.ev.lt i (by simpa using hi)).1))
  have hfin := HS2.out.event hc5 HO5.out hat5
  go_end0
  exact ⟨rfl, ⟨_, hfin⟩, hbl⟩

/-! ### A list of one number, sorted: nothing turns. -/
set_option maxRecDepth 100000 in
theorem insert_one (A : Option Addr) (c : Nat) (w : World) : Calls Tryz.prog 132 #[.slice A 1 c, .int .i64 0, .int .i64 1] w fun e w' => e = .returned (.tuple #[]) ∧ w' = w := by
  go_enter Tryz.func132, Tryz.ntmps132
  go_wp2_with fail
  go_loopg [6] 0 (fun _ i wr => i = .int .i64 1 ∧ wr = w)
  case atStart => exact ⟨rfl, rfl⟩
  case round =>
    obtain ⟨rfl, rfl⟩ := hrel
    go_wp2_with fail
    go_end0
    exact ⟨rfl, rfl⟩
set_option maxRecDepth 100000 in
theorem pdq_one (A : Option Addr) (c : Nat) (l : Int) (w : World) : Calls Tryz.prog 93 #[.slice A 1 c, .int .i64 0, .int .i64 1, .int .i64 l] w fun e w' => e = .returned (.tuple #[]) ∧ w' = w := by
  go_enter Tryz.func93, Tryz.ntmps93
  go_wp2_with fail
  go_loopg [1, 2] 0 (fun _ a b wr => a = .int .i64 0 ∧ b = .int .i64 1 ∧ wr = w)
  case atStart => exact ⟨rfl, rfl, rfl⟩
  case round =>
    obtain ⟨rfl, rfl, rfl⟩ := hrel
    go_wp2_with fail
    refine (insert_one A c wr).mono ?_
    rintro e w' ⟨rfl, rfl⟩
    go_wp2_with fail
    refine bodyPost_ret (v := .tuple #[]) (by simp only [results, Tryz.results93]; go_simp) rfl ?_
    exact ⟨rfl, rfl⟩
set_option maxRecDepth 100000 in
theorem len64_one (w : World) : Calls Tryz.prog 142 #[.int .u64 1] w fun e w' => e = .returned (.int .i64 1) ∧ w' = w := by
  go_enter Tryz.func142, Tryz.ntmps142
  go_wp2_with fail
  go_ret
  exact ⟨by kernel_rfl, rfl⟩
set_option maxRecDepth 100000 in
theorem len_one (w : World) : Calls Tryz.prog 94 #[.int .u64 1] w fun e w' => e = .returned (.int .i64 1) ∧ w' = w := by
  go_enter Tryz.func94, Tryz.ntmps94
  go_wp2_with fail
  refine (len64_one w).mono ?_
  rintro e w' ⟨rfl, rfl⟩
  go_wp2_with fail
  go_ret
  exact ⟨rfl, rfl⟩
set_option maxRecDepth 100000 in
theorem sort_one (A : Option Addr) (c : Nat) (w : World) : Calls Tryz.prog 35 #[.slice A 1 c] w fun e w' => e = .returned (.tuple #[]) ∧ w' = w := by
  go_enter Tryz.func35, Tryz.ntmps35
  go_wp2_with fail
  refine (len_one w).mono ?_
  rintro e w' ⟨rfl, rfl⟩
  go_wp2_with fail
  refine (pdq_one A c _ _).mono ?_
  rintro e w' ⟨rfl, rfl⟩
  go_wp2_with fail
  go_end0
  exact ⟨rfl, rfl⟩
end Go.Proofs.YtnlgiodhfmcaaaaGreatDoor
