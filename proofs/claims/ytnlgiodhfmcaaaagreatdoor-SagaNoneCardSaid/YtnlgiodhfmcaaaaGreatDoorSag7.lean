/-
  The first exit of the child: it is started again.
-/
import Derived.Test.YtnlgiodhfmcaaaaGreatDoorSag6
namespace Go.Proofs.YtnlgiodhfmcaaaaGreatDoor
open Go.RowKit

section
variable {w : World} {B g cb cc ne nr : Nat} {up : Bool} {life now : Int} {rs evs : List Value} {told ended : Bool} {rsV outV : Value}

set_option maxRecDepth 100000 in
set_option maxHeartbeats 2000000 in
/-- The first exit of the child: it is started again. -/
theorem exit_ok (x : Nat) (hl : 0 ≤ life ∧ life ≤ 99) (hne : ne ≤ 99) (h : Sup w B g cb cc true life [] evs ne 0 false false (.slice none 0 0) outV 0) :
    Calls Tryz.prog 6 #[.pointer (some ⟨g, 0, none⟩), .pointer (some ⟨x, 0, none⟩), .int .i64 0, .int .i64 0, .int .i64 (-9223372036854775808)] w fun e w' =>
      (∃ A c, e = .returned (.tuple #[.slice A (ne + 1) c, .int .i64 0])) ∧ (∃ A c, Sup w' B g cb cc true (life + 1) [.int .i64 (-9223372036854775808)] [] 0 (-9223372036854775808) true false (.slice A 1 c) (.slice none 0 0) 1) ∧ Below B w w' := by
  have hBw : B ≤ w.heap.size := Nat.le_trans h.gB (Nat.le_of_lt h.b.lt)
  have g9 : w.cell? ⟨g, 9, none⟩ = some (.bool false) := h.b.cell 9
  have H := Lib.hid h
  clear h
  go_enter Tryz.func6, Tryz.ntmps6
  go_wp2_with fail
  refine (there_yes H.out).mono ?_
  rintro e w' ⟨rfl, hww⟩
  have hww := hww.symm
  subst hww
  go_wp2_with fail
  refine (error_of (at_zero x _)).mono ?_
  rintro e w1 ⟨rfl, hd⟩
  have h1 := H.out.fresh hd
  have g5 : w1.cell? ⟨g, 5, none⟩ = some (.slice (some ⟨cb, 0, none⟩) 1 cc) := h1.b.cell 5
  have g7 : w1.cell? ⟨g, 7, none⟩ = some (.int .i64 0) := h1.b.cell 7
  have g8 : w1.cell? ⟨g, 8, none⟩ = some (.bool false) := h1.b.cell 8
  have f7 := h1.b.frozen 7
  have f8 := h1.b.frozen 8
  have k0 : w1.cell? ⟨cb, 0, none⟩ = some (.int .u8 1) := h1.ch.cellAt 0 (by omega)
  have k1 : w1.cell? ⟨cb, 1, none⟩ = some (.bool true) := h1.ch.cellAt 1 (by omega)
  have f1 := own_frozen h1.ch (by omega) 1
  obtain ⟨a1, a2, a3, a4, a5⟩ := h1.apart
  have a1' : ¬ g = cb := fun e => a1 e.symm
  have s1 := h1.set_g 7 (.int .i64 (-9223372036854775808)) (-9223372036854775808) false false rfl
  have s2 := s1.set_g 8 (.bool true) (-9223372036854775808) true false rfl
  have s3 := s2.child 1 (by omega) (.bool false) false life rfl
  have hc3 : Chg [g, cb] w (((w1.setCell ⟨g, 7, none⟩ (.int .i64 (-9223372036854775808))).setCell ⟨g, 8, none⟩ (.bool true)).setCell ⟨cb, 1, none⟩ (.bool false)) := ((((hd.mono (by simp)).setCell (.inl (by simp)) _).setCell (.inl (by simp)) _).setCell (.inl (by simp)) _)
  have HS := Lib.hid s3; have HC := Lib.hid hc3
  have g5' : (((w1.setCell ⟨g, 7, none⟩ (.int .i64 (-9223372036854775808))).setCell ⟨g, 8, none⟩ (.bool true)).setCell ⟨cb, 1, none⟩ (.bool false)).cell? ⟨cb, 0, none⟩ = some (.int .u8 1) := s3.ch.cellAt 0 (by omega)
  have g7' : (((w1.setCell ⟨g, 7, none⟩ (.int .i64 (-9223372036854775808))).setCell ⟨g, 8, none⟩ (.bool true)).setCell ⟨cb, 1, none⟩ (.bool false)).cell? ⟨g, 7, none⟩ = some (.int .i64 (-9223372036854775808)) := s3.b.cell 7
  clear hd h1 s1 s2 s3 a2 a3 a4 hc3
  go_wp2_with fail
  generalize ((w1.setCell ⟨g, 7, none⟩ (.int .i64 (-9223372036854775808))).setCell ⟨g, 8, none⟩ (.bool true)).setCell ⟨cb, 1, none⟩ (.bool false) = w3 at *
  refine (counts_all HS.out).mono ?_
  rintro e w4 ⟨rfl, hww⟩
  have hww := hww.symm
  subst hww
  clear g5 g7 g8 f7 f8 k0 k1 f1 g9
  have g6 : w3.cell? ⟨g, 6, none⟩ = some (.slice none 0 0) := HS.out.b.cell 6
  have hgl := HS.out.b.lt
  have hBw3 : B ≤ w3.heap.size := Nat.le_trans hBw HC.out.size
  obtain ⟨i0, hi0, hz0, hz1, hz2⟩ := info_parts i64_info
  have I0 := Lib.hid hi0
  have Z0 := Lib.hid hz0; have Z1 := Lib.hid hz1; have Z2 := Lib.hid hz2
  clear hi0 hz0 hz1 hz2 g5'
  have hw0 : IntKind.i64.wrap 0 = 0 := by kernel_rfl
  go_upto_region 27 with fail
  have HCW := Lib.hid (HC.out.below hBw (fun i hi => by
    simp only [List.mem_cons, List.mem_nil_iff, or_false] at hi
    rcases hi with rfl | rfl
    · exact HS.out.gB
    · exact a5))
  go_cut [126] from 126 to 146 (fun _ wc => (∃ A c, Sup wc B g cb cc false life [.int .i64 (-9223372036854775808)] evs ne (-9223372036854775808) true false (.slice A 1 c) outV 1) ∧ Below B w wc)
  case first =>
    refine wp_region_noPanic ?_
    go_region_law (refine step_append_lies _ rfl (.tmp 138) (.tmp 143) _ rfl B 2 i0 _ 1 8 Tryz.underlying56 I0.out Z0.out Z1.out Z2.out rfl (by omega) (.slice none 0 0) 0 [] rfl (World.ownsRow_nil _ _ _ _) ⟨w3.heap.size, 0, none⟩ 1 1 [.int .i64 (-9223372036854775808)] rfl rfl (news_drew_at w3 _ _ _ rfl) (by simp [Value.oneCell']) (by omega) (by simp only [maxLen]; omega) (by omega) (by simp; omega) _ rfl ?_; intro gn cg w5 hown hgrow hat hlt'; have hc5 : Chg [] w3 w5 := (((Chg.refl [] w3).alloc _).drew).grown hgrow (fun k hk => by simp [Value.ownBlock] at hk); have hb5 := HS.out.b.chg hc5 (by simp); have c75 : w5.cell? ⟨g, 6, none⟩ = some (.slice none 0 0) := hb5.cell 6; have f75 := hb5.frozen 6; have HC5 := Lib.hid hc5; have HO5 := Lib.hid hown; have HA5 := Lib.hid hat; clear hb5 hgrow hown hat hc5)
    all_goals
      refine NoPanic.normal ?_
      have hfin := HS.out.restart HC5.out HO5.out (by
        rcases HA5.out with e | e
        · simp [Value.ownBlock] at e
        · simp at e; omega)
      have hbl : Below B w (w5.setCell ⟨g, 6, none⟩ (.slice (some ⟨gn, 0, none⟩) 1 cg)) := HCW.out.trans (((HC5.out.mono (S' := [g]) (by simp)).setCell (.inl (by simp)) _).below hBw3 (fun i hi => by
        obtain rfl : i = g := by simpa using hi
        exact HS.out.gB))
      have HFIN := Lib.hid hfin; have HBL := Lib.hid hbl
      clear hfin hbl
      go_wp2_with fail
      go_meet
      exact ⟨⟨_, _, HFIN.out⟩, HBL.out⟩
  case rest =>
    obtain ⟨⟨A6, c6, hs6⟩, hb6⟩ := hcut
    have HS6 := Lib.hid hs6; have HB6 := Lib.hid hb6
    have g2 : wc.cell? ⟨g, 2, none⟩ = some (.int .i64 1) := hs6.b.cell 2
    have hgl6 := hs6.b.lt
    clear hs6 hb6
    go_wp2_with fail
    refine (again_all HS6.out (by omega) (by omega)).mono ?_
    rintro e w8 ⟨rfl, ⟨outV8, hs8⟩, hb8⟩
    have HS8 := Lib.hid hs8; have HB8 := Lib.hid (HB6.out.trans hb8)
    clear hs8 hb8
    go_wp2_with fail
    refine (events_any HS8.out).mono ?_
    rintro e w9 ⟨⟨A9, c9, rfl⟩, hs9, hb9, _⟩
    have HS9 := Lib.hid hs9; have HB9 := Lib.hid (HB8.out.trans hb9)
    clear hs9 hb9
    go_wp2_with fail
    go_ret2
    exact ⟨⟨A9, c9, rfl⟩, ⟨A6, c6, HS9.out⟩, HB9.out⟩
end
end Go.Proofs.YtnlgiodhfmcaaaaGreatDoor
