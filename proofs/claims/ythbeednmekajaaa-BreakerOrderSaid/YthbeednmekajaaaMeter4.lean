import Derived.Test.YthbeednmekajaaaMeter3
namespace Go.Proofs.Ythbeednmekajaaa
open Go.RowKit

/-- The document's meter at block bm. -/
structure RM (w : World) (base bm : Nat) (n : Nat) (span : Int) (ks : List Int) (bs : List Bool) (vA vB : Value) : Prop where
  m : Blk w bm 96 #[.int .i64 n, .int .i64 span, vA, vB]
  a : w.ownsRow base 3 1 vA ks.length (ks.map (.int .i64))
  b : w.ownsRow base 4 1 vB bs.length (bs.map .bool)
  hb : base ≤ bm
  hl : bs.length = ks.length

/-- The blocks of the document's meter. -/
def rS (bm : Nat) (vA vB : Value) : List Nat := bm :: (vA.ownBlock.toList ++ vB.ownBlock.toList)

theorem RM.chg {w w' : World} {S : List Nat} {base bm n : Nat} {span : Int} {ks : List Int} {bs : List Bool} {vA vB : Value} (h : RM w base bm n span ks bs vA vB) (hc : Chg S w w') (hn : ∀ k, k ∈ rS bm vA vB → k ∉ S) : RM w' base bm n span ks bs vA vB :=
  ⟨h.m.chg hc (hn _ (by simp [rS])), ownsRow_chg h.a hc (fun k hk => hn k (by simp [rS, hk])), ownsRow_chg h.b hc (fun k hk => hn k (by simp [rS, hk])), h.hb, h.hl⟩

set_option maxHeartbeats 400000 in
theorem radd_arg (now : Int) (ok : Bool) (a : Option Addr) (w : World) (ht : tickB now = false) :
    Calls Try.prog 15 #[.pointer a, .int .i64 now, .bool ok] w fun e w' => e = .returned (.int .i64 1) ∧ Chg [] w w' := by
  have H4 := Lib.hid ht; clear ht
  go_enter Try.func15, Try.ntmps15
  go_wp2_with (go_at_call 40; refine (Tick_no _ _ H4.out).mono ?_; rintro e w' ⟨rfl, rfl⟩)
  go_ret
  exact ⟨rfl, Chg.refl _ _⟩

def goneB (ks : List Int) (k : Int) (n : Nat) : Bool := ks.any fun x => decide (k ≤ x - n)

theorem goneB_take (ks : List Int) (k : Int) (n j : Nat) (hj : j < ks.length) : goneB (ks.take (j + 1)) k n = (goneB (ks.take j) k n || decide (k ≤ ks[j] - n)) := by
  unfold goneB
  rw [List.take_succ_eq_append_getElem hj, List.any_append]
  simp

theorem goneB_of (ks : List Int) (k : Int) (n j : Nat) (hj : j < ks.length) (h : k ≤ ks[j] - n) : goneB ks k n = true := by
  simp only [goneB, List.any_eq_true, decide_eq_true_eq]
  exact ⟨ks[j], List.getElem_mem hj, h⟩

theorem int_info : (Try.prog.info? 3).map (fun i => (i.zero, i.size, i.bytes)) = some (some (.int .i64 0), 1, 8) := by kernel_rfl
theorem bool_info : (Try.prog.info? 4).map (fun i => (i.zero, i.size, i.bytes)) = some (some (.bool false), 1, 1) := by kernel_rfl

/-- What a call that is told 'OK' leaves. -/
def RAdded (w : World) (base bm n : Nat) (span : Int) (ks : List Int) (bs : List Bool) (vA vB : Value) (w' : World) : Prop :=
  ∃ vA' vB', RM w' base bm n span ks bs vA' vB' ∧ Chg (rS bm vA vB) w w'

def RAddPost (now : Int) (ok : Bool) (w : World) (base bm n : Nat) (span : Int) (ks : List Int) (bs : List Bool) (vA vB : Value) (e : Ending) (w' : World) : Prop :=
  (goneB ks (now / span) n = true → e = .returned (.int .i64 1) ∧ Chg [] w w') ∧
  (goneB ks (now / span) n = false → e = .returned (.int .i64 0) ∧ RAdded w base bm n span (ks ++ [now / span]) (bs ++ [!ok]) vA vB w')

theorem radd_own2 {wr w1 : World} {base bm n : Nat} {span : Int} {ks : List Int} {bs : List Bool} {vA vB : Value} {o1 : Obj} {cs : Array Value}
    (hm : RM wr base bm n span ks bs vA vB) (hg1 : (wr.alloc o1).grownBy w1 vA.ownBlock) (_m1 : Blk w1 bm 96 cs) (nB : vB.ownBlock ≠ some bm) (v1 : Value) (o2 : Obj) :
    ((w1.setCell ⟨bm, 2, none⟩ v1).alloc o2).ownsRow base 4 1 vB bs.length (bs.map .bool) := by
  have h1 : w1.ownsRow base 4 1 vB bs.length (bs.map .bool) := (hm.b.alloc o1).kept hg1 (own_own_ne hm.b hm.a (by decide))
  have h2 := ownsRow_chg h1 ((Chg.refl [bm] w1).setCell (p := ⟨bm, 2, none⟩) (.inl (by simp)) v1) (fun j hj => by
    intro hm'
    have hj' : j = bm := by simpa using hm'
    subst hj'
    exact nB hj)
  exact h2.alloc o2

theorem radd_close {w wr w1 w2 : World} {base bm n : Nat} {span : Int} {ks : List Int} {bs : List Bool} {vA vB v1 v2 : Value} {k : Int} {b : Bool} {o1 o2 : Obj}
    (hc : Chg [] w wr) (hm : RM wr base bm n span ks bs vA vB)
    (hown1 : w1.ownsRow base 3 1 v1 (ks.length + 1) (ks.map (.int .i64) ++ [.int .i64 k])) (hg1 : (wr.alloc o1).grownBy w1 vA.ownBlock)
    (hown2 : w2.ownsRow base 4 1 v2 (bs.length + 1) (bs.map .bool ++ [.bool b])) (hg2 : ((w1.setCell ⟨bm, 2, none⟩ v1).alloc o2).grownBy w2 vB.ownBlock) :
    RAdded w base bm n span (ks ++ [k]) (bs ++ [b]) vA vB (w2.setCell ⟨bm, 3, none⟩ v2) := by
  have nA := own_blk_ne hm.a hm.m (by decide)
  have nB := own_blk_ne hm.b hm.m (by decide)
  have m1 : Blk w1 bm 96 _ := (hm.m.alloc o1).grown hg1 (fun e => nA e.symm)
  have m2 := m1.set_ 2 v1
  have m3 := (m2.alloc o2).grown hg2 (fun e => nB e.symm)
  have m4 := m3.set_ 3 v2
  have o1' : w2.ownsRow base 3 1 v1 (ks.length + 1) (ks.map (.int .i64) ++ [.int .i64 k]) := by
    have h0 : (w1.setCell ⟨bm, 2, none⟩ v1).ownsRow base 3 1 v1 (ks.length + 1) (ks.map (.int .i64) ++ [.int .i64 k]) :=
      ownsRow_chg hown1 ((Chg.refl [bm] w1).setCell (.inl (by simp)) v1) (fun j hj => by
        intro hm'
        have hj' : j = bm := by simpa using hm'
        subst hj'
        exact own_blk_ne hown1 m1 (by decide) hj)
    have hb1 : (w1.setCell ⟨bm, 2, none⟩ v1).ownsRow base 4 1 vB bs.length (bs.map .bool) := by
      have h1 : w1.ownsRow base 4 1 vB bs.length (bs.map .bool) := (hm.b.alloc o1).kept hg1 (own_own_ne hm.b hm.a (by decide))
      exact ownsRow_chg h1 ((Chg.refl [bm] w1).setCell (.inl (by simp)) v1) (fun j hj => by
        intro hm'
        have hj' : j = bm := by simpa using hm'
        subst hj'
        exact nB hj)
    exact (h0.alloc o2).kept hg2 (own_own_ne h0 hb1 (by decide))
  have sz1 : wr.heap.size ≤ w1.heap.size := Nat.le_trans (by simp) hg1.size
  refine ⟨v1, v2, ⟨by simpa using m4, ?_, ?_, hm.hb, by simp [hm.hl]⟩, ?_⟩
  · have := ownsRow_chg o1' ((Chg.refl [bm] w2).setCell (p := ⟨bm, 3, none⟩) (.inl (by simp)) v2) (fun j hj => by
        intro hm'
        have hj' : j = bm := by simpa using hm'
        subst hj'
        exact own_blk_ne o1' m3 (by decide) hj)
    simpa using this
  · have := ownsRow_chg hown2 ((Chg.refl [bm] w2).setCell (p := ⟨bm, 3, none⟩) (.inl (by simp)) v2) (fun j hj => by
        intro hm'
        have hj' : j = bm := by simpa using hm'
        subst hj'
        exact own_blk_ne hown2 m3 (by decide) hj)
    simpa using this
  · have hsz := hc.size
    refine Chg.setCell (p := ⟨bm, 3, none⟩) ?_ (.inl (by simp [rS])) v2
    refine Chg.grown (Chg.alloc (Chg.setCell (p := ⟨bm, 2, none⟩) (Chg.grown (Chg.alloc (hc.mono (by simp)) o1) hg1 ?_) (.inl (by simp [rS])) v1) o2) hg2 ?_
    · intro j hj; exact .inl (by simp [rS, hj])
    · intro j hj; exact .inl (by simp [rS, hj])

set_option maxRecDepth 100000 in
set_option maxHeartbeats 1000000 in
theorem radd_tick (now : Int) (ok : Bool) (w : World) {base bm n : Nat} {span : Int} {ks : List Int} {bs : List Bool} {vA vB : Value} (hm : RM w base bm n span ks bs vA vB) (ht : tickB now = true) (h1 : 1 ≤ n) (h2 : n ≤ 1000) (h3 : 1 ≤ span) (h3' : span ≤ 2147483647)
    (hk : ∀ x ∈ ks, 0 ≤ x ∧ x ≤ 2147483647) (hlen : ks.length ≤ 8796093022208) (hbase : base ≤ w.heap.size) :
    Calls Try.prog 15 #[.pointer (some ⟨bm, 0, none⟩), .int .i64 now, .bool ok] w (RAddPost now ok w base bm n span ks bs vA vB) := by
  have H4 := Lib.hid ht
  simp only [tickB, decide_eq_true_eq] at ht
  obtain ⟨t0, t1⟩ := ht
  have c0 := hm.m.cell 0
  have c1 := hm.m.cell 1
  have c2 := hm.m.cell 2
  have c3 := hm.m.cell 3
  have hlB := hm.hl
  obtain ⟨A, cA, rfl⟩ := own_slice hm.a
  obtain ⟨B, cB, rfl⟩ := own_slice hm.b
  simp at c0 c1 c2 c3
  have q0 : 0 ≤ now / span := Int.ediv_nonneg t0 (by omega)
  have q1 : now / span ≤ 2147483647 := Int.le_trans (Int.ediv_le_self _ t0) t1
  have HM := Lib.hid hm; clear hm
  have HK := Lib.hid hk; clear hk
  have HL := Lib.hid hlB; clear hlB
  obtain ⟨i0, hi0, hz0, hz1, hz2⟩ := info_parts int_info
  obtain ⟨i1, hi1, hy0, hy1, hy2⟩ := info_parts bool_info
  have I0 := Lib.hid hi0; have I1 := Lib.hid hi1
  have Z0 := Lib.hid hz0; have Z1 := Lib.hid hz1; have Z2 := Lib.hid hz2
  have Y0 := Lib.hid hy0; have Y1 := Lib.hid hy1; have Y2 := Lib.hid hy2
  clear hi0 hi1 hz0 hz1 hz2 hy0 hy1 hy2
  go_enter Try.func15, Try.ntmps15
  go_wp2_with (go_at_call 40; refine (Tick_yes _ _ H4.out).mono ?_; rintro e w' ⟨rfl, rfl⟩)
  go_loopw [8] (fun i wr => ∃ j : Nat, j ≤ ks.length ∧ i = .int .i64 j ∧ Hid (goneB (ks.take j) (now / span) n = false) ∧ Chg [] w wr)
    (fun i _ => ks.length - (intOf i).toNat)
  case atStart => exact ⟨0, Nat.zero_le _, rfl, rfl, Chg.refl _ _⟩
  case round =>
    obtain ⟨j, hj, rfl, hg, hc⟩ := hrel
    have hM := HM.out.chg hc (by simp)
    have c0 := hM.m.cell 0
    have c1 := hM.m.cell 1
    have c2 := hM.m.cell 2
    have c3 := hM.m.cell 3
    have f2 := hM.m.frozen 2
    simp at c0 c1 c2 c3
    have HC := Lib.hid hc
    have HMM := Lib.hid hM
    have hbr : base ≤ wr.heap.size := Nat.le_trans hbase hc.size
    clear hc hM
    by_cases hlt : j < ks.length
    · obtain ⟨g, cap, hv, hbg, hgl, hcell⟩ := own_at HMM.out.a (by omega)
      injection hv with hv1 hv2 hv3
      subst hv1 hv3
      have r0 := hcell j hlt
      simp [hlt] at r0
      have hx := HK.out _ (List.getElem_mem hlt)
      obtain ⟨x, hxe⟩ : ∃ x, x = ks[j] := ⟨_, rfl⟩
      rw [← hxe] at r0 hx
      obtain ⟨x0, x1⟩ := hx
      have HX := Lib.hid hxe
      have HCE := Lib.hid hcell
      clear hxe hcell
      have b0 : (j : Int) < (ks.length : Int) := by omega
      by_cases d : now / span ≤ x - n
      · go_wp2_with fail
        go_quiet (fail)
        go_wp2_with fail
        go_ret
        have hd : goneB ks (now / span) n = true := goneB_of ks _ n j hlt (by rw [← HX.out]; exact d)
        exact ⟨fun _ => ⟨rfl, HC.out.drewN _⟩, fun h => absurd (hd.symm.trans h) (by decide)⟩
      · go_wp2_with fail
        go_quiet (fail)
        go_wp2_with fail
        go_roundw
        case rel =>
          refine ⟨j + 1, by omega, by go_num, ?_, HC.out.drewN _⟩
          show goneB _ _ _ = false
          rw [goneB_take ks _ n j hlt, hg.out, ← HX.out]
          simp [d]
        case measure => simp [intOf]; omega
    · have hjl : j = ks.length := by omega
      have HG : Hid (goneB ks (now / span) n = false) := by
        show _ = _
        have := hg.out
        rw [hjl, List.take_of_length_le (Nat.le_refl _)] at this
        exact this
      clear hjl hg
      have nA := own_blk_ne HMM.out.a HMM.out.m (by decide)
      have nB := own_blk_ne HMM.out.b HMM.out.m (by decide)
      have NA := Lib.hid nA; have NB := Lib.hid nB
      clear nA nB
      go_wp2_with (first
        | (at_builtin
           refine wpList_append_own_at _ rfl (.tmp 45) (.tmp 47) _ rfl base 3 i0 _ 1 8 Try.underlying50 I0.out Z0.out Z1.out Z2.out rfl (by omega) (.slice A ks.length cA) ks.length (ks.map (.int .i64)) rfl (HMM.out.a.alloc _) ⟨wr.heap.size, 0, none⟩ 1 1 [.int .i64 (now / span)] rfl rfl (cell_one_new _ _ _) (by simp [Value.oneCell']) (by simp only [maxLen]; omega) (by omega) (by simp; omega) ?_
           intro v1 w1 hown1 hgrow1 hnil1 hat1
           obtain ⟨A1, cp1, rfl⟩ := own_slice hown1
           have m1 := (HMM.out.m.alloc _).grown hgrow1 (fun e => NA.out e.symm)
           have d2 := m1.cell 2
           have d3 := m1.cell 3
           have g2 := m1.frozen 2
           have g3 := m1.frozen 3
           simp at d2 d3
           have hs1 := hgrow1.size
           simp at hs1
           have HO1 := Lib.hid hown1; have HG1 := Lib.hid hgrow1; have HA1 := Lib.hid hat1; have M1 := Lib.hid m1
           clear hown1 hgrow1 hnil1 hat1 m1)
        | (at_builtin
           refine wpList_append_own_at _ rfl (.tmp 55) (.tmp 58) _ rfl base 4 i1 _ 1 1 Try.underlying85 I1.out Y0.out Y1.out Y2.out rfl (by omega) (.slice B bs.length cB) bs.length (bs.map .bool) rfl (radd_own2 HMM.out HG1.out M1.out NB.out _ _) ⟨w1.heap.size, 0, none⟩ 1 1 [.bool (!ok)] rfl rfl (cell_new_at _ _ _ _ (by simp)) (by simp [Value.oneCell']) (by simp only [maxLen]; rw [HL.out]; omega) (by rw [HL.out]; omega) (by simp; omega) ?_
           intro v2 w2 hown2 hgrow2 hnil2 hat2
           obtain ⟨A2, cp2, rfl⟩ := own_slice hown2
           have m3 := ((M1.out.set_ 2 (.slice A1 (ks.length + 1) cp1)).alloc _).grown hgrow2 (fun e => NB.out e.symm)
           have e3 := m3.cell 3
           have h3 := m3.frozen 3
           simp at e3
           clear m3
           have HO2 := Lib.hid hown2; have HG2 := Lib.hid hgrow2
           clear hown2 hgrow2 hnil2 hat2))
      go_ret
      exact ⟨fun h => absurd (h.symm.trans HG.out) (by decide), fun _ => ⟨rfl, radd_close HC.out HMM.out HO1.out HG1.out HO2.out HG2.out⟩⟩
end Go.Proofs.Ythbeednmekajaaa
