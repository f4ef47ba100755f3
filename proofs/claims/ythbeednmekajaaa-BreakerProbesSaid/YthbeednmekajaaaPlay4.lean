import Derived.Test.YthbeednmekajaaaPlay3
import Derived.Test.YthbeednmekajaaaMeter4
import Derived.Deep.CutRange
namespace Go.Proofs.Ythbeednmekajaaa
open Go.RowKit

structure St where
  who : Int
  done : Bool
  hand : Bool
  i_ : Int
  ok : Bool
  now : Int

/-- What the script's cells hold. -/
def StAt (w : World) (b o : Nat) (x : St) : Prop :=
  w.cell? ⟨b, o, none⟩ = some (.int .i64 x.who) ∧ w.cell? ⟨b, o + 1, none⟩ = some (.bool x.done) ∧ w.cell? ⟨b, o + 2, none⟩ = some (.bool x.hand) ∧ w.cell? ⟨b, o + 3, none⟩ = some (.int .i64 x.i_) ∧ w.cell? ⟨b, o + 4, none⟩ = some (.bool x.ok) ∧ w.cell? ⟨b, o + 5, none⟩ = some (.int .i64 x.now)

theorem StAt.below {B : Nat} {w w' : World} {b o : Nat} {x : St} (h : StAt w b o x) (hb : Below B w w') (hl : b < B) : StAt w' b o x := by
  obtain ⟨h0, h1, h2, h3, h4, h5⟩ := h
  exact ⟨(hb.cell (p := ⟨b, o, none⟩) hl).trans h0, (hb.cell (p := ⟨b, o + 1, none⟩) hl).trans h1, (hb.cell (p := ⟨b, o + 2, none⟩) hl).trans h2, (hb.cell (p := ⟨b, o + 3, none⟩) hl).trans h3, (hb.cell (p := ⟨b, o + 4, none⟩) hl).trans h4, (hb.cell (p := ⟨b, o + 5, none⟩) hl).trans h5⟩

theorem PassesAt.chg {w w' : World} {P : Option Addr} {pl : Nat} (h : PassesAt w P pl) (hc : Chg [] w w') : PassesAt w' P pl := fun j hj => by
  obtain ⟨g, x, h1, h2, h3⟩ := h j hj
  exact ⟨g, x, h1, Nat.lt_of_lt_of_le h2 hc.size, (hc.cell (p := ⟨g, j, none⟩) h2 (by simp)).trans h3⟩

theorem lstep_any (w : World) (bb : Nat) (t : T) (v : V) (who : Int) (done hand : Bool) (i_ : Int) (ok : Bool) (now : Int) (P : Option Addr) (pl pc : Nat) (hB : Brk w bb t v) (hp : PassesAt w P pl) (hpl : pl ≤ 8796093022208) :
    Calls Try.prog 22 #[.pointer (some ⟨bb, 0, none⟩), .agg #[.int .i64 t.F, .int .i64 t.W, .int .i64 t.S], .agg #[.int .u8 v.st, .int .i64 v.turn, .int .i64 v.fails, .int .i64 v.at_], .agg #[.int .i64 who, .bool done, .bool hand, .int .i64 i_, .bool ok, .int .i64 now], .slice P pl pc] w (LPost bb t w) := by
  cases done
  · exact lstep_allow w bb t v who hand i_ ok now P pl pc hB
  · exact lstep_done w bb t v who hand i_ ok now P pl pc hB hp hpl

set_option maxRecDepth 100000 in
set_option maxHeartbeats 2000000 in
theorem walk (one two : T) (A : Option Addr) (len cap : Nat) (w : World) (hlen : len ≤ 8796093022208) (xs : Nat → St)
    (hx : 0 < len → ∃ b off, A = some ⟨b, off, none⟩ ∧ b < w.heap.size ∧ ∀ i, i < len → StAt w b (off + i * 6) (xs i)) :
    Calls Try.prog 4 #[.agg #[.int .i64 one.F, .int .i64 one.W, .int .i64 one.S], .agg #[.int .i64 two.F, .int .i64 two.W, .int .i64 two.S], .slice A len cap] w fun e w' => e = .returned (.bool true) ∧ Below w.heap.size w w' := by
  have HX := Lib.hid hx; clear hx
  go_enter Try.func4, Try.ntmps4
  go_wp2_with fail
  refine (new_any one _).mono ?_
  rintro e w1 ⟨oa, ea, rfl, hn1, hc1⟩
  have bt : Blk w1 (w.heap.size + 1) 41 _ := (Blk.new' (w.alloc _) _ _ _ (by simp)).chg hc1 (by simp)
  have bo : Blk w1 w.heap.size 41 _ := ((Blk.new w _ _).alloc _).chg hc1 (by simp)
  obtain ⟨⟨t0, t1, t2⟩, -⟩ := bt.three
  have HBo := Lib.hid bo; have HBt := Lib.hid bt; have HC1 := Lib.hid hc1; have HN1 := Lib.hid hn1
  clear bt bo hc1 hn1
  go_wp2_with fail
  refine (new_any two _).mono ?_
  rintro e w2 ⟨ob, eb, rfl, hn2, hc2⟩
  have bt := HBt.out.chg hc2 (by simp)
  have bo := HBo.out.chg hc2 (by simp)
  have HC2 : Hid (Chg [] _ w2) := HC1.out.trans hc2
  have hna := HN1.out.chg hc2
  have hob : ∀ x, ob = some x → w1.heap.size ≤ x := by
    rcases hn2 with ⟨_, _, bb, rfl, h4, _⟩ | ⟨_, _, rfl⟩
    · intro x e; injection e with e; omega
    · intro x e; cases e
  have hoa : ∀ x, oa = some x → x < w1.heap.size := by
    rcases HN1.out with ⟨_, _, bb, rfl, _, h5⟩ | ⟨_, _, rfl⟩
    · intro x e; injection e with e; subst e; exact h5.b.lt
    · intro x e; cases e
  have HS1 : Hid (w.heap.size ≤ w1.heap.size) := by have := HC1.out.size; simp at this; show _ ≤ _; omega
  have HNE : Hid (∀ x y, oa = some x → ob = some y → x ≠ y) := fun x y e1 e2 => by have := hoa x e1; have := hob y e2; omega
  have HN2 := Lib.hid hn2; have HNA := Lib.hid hna
  have HBo2 := Lib.hid bo; have HBt2 := Lib.hid bt
  clear HBo HBt HN1 t0 t1 t2 hoa hob hn2 hna hc2 HC1 bo bt
  go_upto_region 3 with fail
  go_cut [73] from 32 to 73 (fun s wc => s = .bool false ∧ Chg [] w2 wc)
  case first =>
    obtain ⟨⟨t0, t1, t2⟩, -⟩ := HBt2.out.three
    obtain ⟨⟨o0, o1, o2⟩, -⟩ := HBo2.out.three
    have hb2 := HBo2.out.lt
    have ht2 := HBt2.out.lt
    have mayOne := fun W => may_any one W
    have mayTwo := fun W => may_any two W
    have pn : pv none = .pointer none := rfl
    have ps : ∀ b, pv (some b) = .pointer (some ⟨b, 0, none⟩) := fun _ => rfl
    rcases HNA.out with ⟨h1, rfl, ma, rfl, -⟩ | ⟨h1, rfl, rfl⟩ <;> rcases HN2.out with ⟨h2, rfl, mb, rfl, -⟩ | ⟨h2, rfl, rfl⟩
    all_goals
      rw [h1] at mayOne
      rw [h2] at mayTwo
      clear h1 h2
      have MO := Lib.hid mayOne; have MT := Lib.hid mayTwo
      clear mayOne mayTwo
      go_wp2_with fail
      refine (MO.out _).mono ?_
      rintro e w3 ⟨rfl, hc3⟩
      have ht3 := HBt2.out.chg hc3 (by simp)
      obtain ⟨⟨t0, t1, t2⟩, -⟩ := ht3.three
      go_wp2_with fail
      refine (MT.out _).mono ?_
      rintro e w4 ⟨rfl, hc4⟩
      go_wp2_with fail
      go_meet
      exact ⟨rfl, hc3.trans hc4⟩
  case rest =>
    obtain ⟨rfl, hcut⟩ := hcut
    have bt := HBt2.out.chg hcut (by simp)
    have bo := HBo2.out.chg hcut (by simp)
    have HBo := Lib.hid bo; have HBt := Lib.hid bt
    have hna := HNA.out.chg hcut
    have hnb := HN2.out.chg hcut
    have HBW : Hid (Below w.heap.size w wc) := ((((Chg.refl [] w).alloc _).alloc _).trans (HC2.out.trans hcut)).below (Nat.le_refl _) (by simp)
    have HA : Hid (∀ bb, oa = some bb → Brk wc bb one v0 ∧ w.heap.size ≤ bb) := by
      rcases hna with ⟨_, _, bb, rfl, h4, h5⟩ | ⟨_, _, rfl⟩
      · intro x e; injection e with e; subst e; simp at h4; exact ⟨h5, by omega⟩
      · intro x e; cases e
    have HB : Hid (∀ bb, ob = some bb → Brk wc bb two v0 ∧ w.heap.size ≤ bb) := by
      rcases hnb with ⟨_, _, bb, rfl, h4, h5⟩ | ⟨_, _, rfl⟩
      · intro x e; injection e with e; subst e; exact ⟨h5, Nat.le_trans HS1.out h4⟩
      · intro x e; cases e
    clear HBo2 HBt2 HNA HN2 HC2 hcut hna hnb bt bo
    obtain ⟨i0, hi0, hz0, hz1, hz2⟩ := info_parts int_info
    have I0 := Lib.hid hi0
    have Z0 := Lib.hid hz0; have Z1 := Lib.hid hz1; have Z2 := Lib.hid hz2
    clear hi0 hz0 hz1 hz2
    go_wp2_with fail
    go_loopg [13, 14] len (fun g v i wr => ∃ (k : Nat) (ps : List Int) (va vb : V), k + g = len ∧ i = .int .i64 k ∧ ps.length ≤ k ∧ PRel w wc.heap.size (wc.heap.size + 1) oa ob one two ps va vb v wr)
    case atStart =>
      have b1 := (Blk.new wc 49 (vcells v0)).alloc (.cells (vcells v0) 49)
      have b2 := Blk.new' (wc.alloc (.cells (vcells v0) 49)) 49 (vcells v0) (wc.heap.size + 1) (by simp)
      have hs := HBW.out.size
      exact ⟨0, [], v0, v0, by omega, rfl, Nat.le_refl _, World.ownsRow_nil _ _ _ _, b1, b2, fun x e => ((HA.out x e).1.alloc _).alloc _, fun x e => ((HB.out x e).1.alloc _).alloc _, HNE.out, fun x e => (HA.out x e).2, fun x e => (HB.out x e).2, by omega, by omega, by omega, (HBo.out.alloc _).alloc _, (HBt.out.alloc _).alloc _, (HBW.out.alloc hs _).alloc (by simp; omega) _⟩
    case round =>
      obtain ⟨k, ps, va, vb, hk, rfl, hpl, hR⟩ := hrel
      have HR := Lib.hid hR; clear hR
      have hsz : w.heap.size ≤ wr.heap.size := HR.out.below.size
      have hl1 := HR.out.t1.lt
      have hl2 := HR.out.t2.lt
      have hl3 := HR.out.mc.lt
      have hl4 := HR.out.md.lt
      by_cases hlt : k < len
      · obtain ⟨b, off, rfl, hbl, hcs⟩ := HX.out (by omega)
        have hx0 : StAt wr b (off + k * 6) (xs k) := (hcs k hlt).below HR.out.below hbl
        obtain ⟨⟨who, done, hand, i_, ok, now⟩, hxe⟩ : ∃ y, xs k = y := ⟨_, rfl⟩
        rw [hxe] at hx0
        obtain ⟨x0, x1, x2, x3, x4, x5⟩ := hx0
        simp only at x0 x1 x2 x3 x4 x5
        clear hxe hcs
        have b0 : (k : Int) < (len : Int) := by omega
        obtain ⟨⟨o0, o1, o2⟩, -⟩ := HR.out.t1.three
        obtain ⟨⟨t0, t1, t2⟩, -⟩ := HR.out.t2.three
        obtain ⟨⟨c0, c1, c2, c3⟩, ⟨f0, f1, f2, f3⟩⟩ := HR.out.mc.four
        obtain ⟨⟨d0, d1, d2, d3⟩, ⟨g0, g1, g2, g3⟩⟩ := HR.out.md.four
        have pn : pv none = .pointer none := rfl
        by_cases hw : who = 0
        · have hw' : (who != 0) = false := by simp [hw]
          clear hw
          cases hoa : oa with
          | none =>
            subst hoa
            go_wp2_with fail
            go_roundg (gk - 1)
            case rel => exact ⟨k + 1, ps, va, vb, by omega, by go_num, by omega, HR.out.same ((((Chg.refl [] wr).alloc _).alloc _).alloc _)⟩
            case measure => omega
          | some x =>
            subst hoa
            have psx : pv (some x) = .pointer (some ⟨x, 0, none⟩) := rfl
            obtain ⟨P, pc, rfl, hps⟩ := HR.out.passes (Chg.refl [] wr)
            have HP := Lib.hid hps; clear hps
            have HBx := Lib.hid (HR.out.a x rfl)
            go_wp2_with fail
            refine ((lstep_any _ x one va who done hand i_ ok now P ps.length pc (HBx.out.chg (S := []) ((((Chg.refl [] wr).alloc _).alloc _).alloc _) (by simp)) (HP.out.chg ((((Chg.refl [] wr).alloc _).alloc _).alloc _)) (by omega))).mono ?_
            rintro e w3 ⟨v', p', rfl, hB3, hc3⟩
            have HC3 : Hid (Chg [x] wr w3) := ((((Chg.refl [x] wr).alloc _).alloc _).alloc _).trans hc3
            have HB3 := Lib.hid hB3
            have k15 : Blk w3 wr.heap.size 52 #[.int .i64 who, .bool done, .bool hand, .int .i64 i_, .bool ok, .int .i64 now] := (((Blk.new wr _ _).alloc _).alloc _).chg hc3 (by have := HBx.out.b.lt; simp; omega)
            have hs3 := hc3.size
            simp at hs3
            have K15 := Lib.hid k15
            clear hB3 hc3 k15 c0 c1 c2 c3 f0 f1 f2 f3 d0 d1 d2 d3 g0 g1 g2 g3 x0 x1 x2 x3 x4 x5 o0 o1 o2 t0 t1 t2
            go_wp2_with fail
            go_region_held3 (fun w' => w'.cell? ⟨w3.heap.size, 0, none⟩ = some (.int .u8 v'.st) ∧ w'.cell? ⟨w3.heap.size, 1, none⟩ = some (.int .i64 v'.turn) ∧ w'.cell? ⟨w3.heap.size, 2, none⟩ = some (.int .i64 v'.fails) ∧ w'.cell? ⟨w3.heap.size, 3, none⟩ = some (.int .i64 v'.at_))
              (first
                | go_keep
                | exact ⟨(hc4.cell (by simp) (by simp)).trans (by simp), (hc4.cell (by simp) (by simp)).trans (by simp), (hc4.cell (by simp) (by simp)).trans (by simp), (hc4.cell (by simp) (by simp)).trans (by simp)⟩
                | exact ⟨((hc4.trans hc5).cell (by simp) (by simp)).trans (by simp), ((hc4.trans hc5).cell (by simp) (by simp)).trans (by simp), ((hc4.trans hc5).cell (by simp) (by simp)).trans (by simp), ((hc4.trans hc5).cell (by simp) (by simp)).trans (by simp)⟩)
              (first
                | (go_at_call 24; refine (view_any _ x one v' ((HB3.out.alloc _).drew)).mono ?_; rintro e w4 ⟨rfl, hc4⟩)
                | (go_at_call 23; refine (alike_any v' _).mono ?_; rintro e w5 ⟨rfl, hc5⟩))
            have HC5 : Hid (Chg [x] wr w5) := (((HC3.out.alloc _).drew).trans' hc4 (by simp)).trans' hc5 (by simp)
            have HB5 := Lib.hid ((((HB3.out.alloc _).drew).chg hc4 (by simp)).chg hc5 (by simp))
            have K20 := Lib.hid ((((Blk.new w3 49 #[.int .u8 v'.st, .int .i64 v'.turn, .int .i64 v'.fails, .int .i64 v'.at_]).drew).chg hc4 (by simp)).chg hc5 (by simp))
            have K15b := Lib.hid ((((K15.out.alloc _).drew).chg hc4 (by simp)).chg hc5 (by simp))
            have hnx : ¬ x ∈ ([] : List Nat) := by simp
            have KC := Lib.hid (HR.out.mc.chg HC5.out (by simp; exact fun e => by subst e; exact Blk.ne_ (HBx.out.b) HR.out.mc (by decide) rfl))
            have HP5 := Lib.hid (ownsRow_chg HR.out.p HC5.out (by intro i hi hm; obtain rfl : i = x := (by simpa using hm); exact own_blk_ne HR.out.p HBx.out.b (by decide) hi))
            clear hc4 hc5 K15 HC3 HB3 hs3
            by_cases hpp : 0 < p'
            · have dp : decide (0 < p') = true := by simp [hpp]
              clear hpp
              have n20 := own_blk_ne HP5.out K20.out (by decide)
              have nC := own_blk_ne HP5.out KC.out (by decide)
              have n15 := own_blk_ne HP5.out K15b.out (by decide)
              have nX := own_blk_ne HP5.out HB5.out.b (by decide)
              have N1 := Lib.hid n20; have N2 := Lib.hid nC; have N3 := Lib.hid n15; have N4 := Lib.hid nX
              have hs5 : w.heap.size ≤ w5.heap.size := Nat.le_trans hsz HC5.out.size
              clear n20 nC n15 nX
              go_wp2_with (at_builtin; refine wpList_append_own_at _ rfl (.tmp 116) (.tmp 118) _ rfl w.heap.size 3 i0 _ 1 8 Try.underlying50 I0.out Z0.out Z1.out Z2.out rfl (by omega) (.slice P ps.length pc) ps.length (ps.map (.int .i64)) rfl (ownsRow_chg HP5.out ((Chg.refl [] w5).alloc _) (by simp)) ⟨w5.heap.size, 0, none⟩ 1 1 [.int .i64 p'] rfl rfl (cell_one_new _ _ _) (by simp [Value.oneCell']) (by simp only [maxLen]; omega) (by omega) (by simp; omega) ?_; intro v1 w7 hown hgrow hnil hat; have k20 := (K20.out.alloc _).grown hgrow (fun e => N1.out e.symm); have kc := (KC.out.alloc _).grown hgrow (fun e => N2.out e.symm); have k15' := (K15b.out.alloc _).grown hgrow (fun e => N3.out e.symm); have k15 := k15'.cell 0; simp at k15; obtain ⟨⟨c0, c1, c2, c3⟩, ⟨f0, f1, f2, f3⟩⟩ := kc.four; obtain ⟨⟨d0, d1, d2, d3⟩, -⟩ := k20.four; have HG := Lib.hid hgrow; have HO := Lib.hid hown; clear hgrow hown hnil hat k20 kc k15')
              go_roundg (gk - 1)
              case rel =>
                have hb7 : Brk w7 x one v' := ⟨(HB5.out.b.alloc _).grown HG.out (fun e => N4.out e.symm), HB5.out.t, HB5.out.v⟩
                have hc7 : Chg (x :: (Value.slice P ps.length pc).ownBlock.toList) wr w7 := ((HC5.out.mono (by simp)).alloc _).grown HG.out (fun i hi => .inl (by simp [hi]))
                refine ⟨k + 1, ps ++ [p'], v', vb, by omega, by go_num, by simp; omega, ?_⟩
                exact HR.out.endA rfl hc7 hb7 (by simpa using HO.out)
              case measure => omega
            · have dp : decide (0 < p') = false := by simp [hpp]
              clear hpp
              have k15 := K15b.out.cell 0
              simp at k15
              obtain ⟨⟨c0, c1, c2, c3⟩, ⟨f0, f1, f2, f3⟩⟩ := KC.out.four
              obtain ⟨⟨d0, d1, d2, d3⟩, -⟩ := K20.out.four
              go_wp2_with fail
              go_roundg (gk - 1)
              case rel =>
                refine ⟨k + 1, ps, v', vb, by omega, by go_num, by omega, ?_⟩
                exact HR.out.endA rfl (HC5.out.mono (by simp)) HB5.out HP5.out
              case measure => omega
        · have hw' : (who != 0) = true := by simp [hw]
          clear hw
          cases hob : ob with
          | none =>
            subst hob
            go_wp2_with fail
            go_roundg (gk - 1)
            case rel => exact ⟨k + 1, ps, va, vb, by omega, by go_num, by omega, HR.out.same ((((Chg.refl [] wr).alloc _).alloc _).alloc _)⟩
            case measure => omega
          | some x =>
            subst hob
            have psx : pv (some x) = .pointer (some ⟨x, 0, none⟩) := rfl
            obtain ⟨P, pc, rfl, hps⟩ := HR.out.passes (Chg.refl [] wr)
            have HP := Lib.hid hps; clear hps
            have HBx := Lib.hid (HR.out.b x rfl)
            go_wp2_with fail
            refine ((lstep_any _ x two vb who done hand i_ ok now P ps.length pc (HBx.out.chg (S := []) ((((Chg.refl [] wr).alloc _).alloc _).alloc _) (by simp)) (HP.out.chg ((((Chg.refl [] wr).alloc _).alloc _).alloc _)) (by omega))).mono ?_
            rintro e w3 ⟨v', p', rfl, hB3, hc3⟩
            have HC3 : Hid (Chg [x] wr w3) := ((((Chg.refl [x] wr).alloc _).alloc _).alloc _).trans hc3
            have HB3 := Lib.hid hB3
            have k15 : Blk w3 wr.heap.size 52 #[.int .i64 who, .bool done, .bool hand, .int .i64 i_, .bool ok, .int .i64 now] := (((Blk.new wr _ _).alloc _).alloc _).chg hc3 (by have := HBx.out.b.lt; simp; omega)
            have hs3 := hc3.size
            simp at hs3
            have K15 := Lib.hid k15
            clear hB3 hc3 k15 c0 c1 c2 c3 f0 f1 f2 f3 d0 d1 d2 d3 g0 g1 g2 g3 x0 x1 x2 x3 x4 x5 o0 o1 o2 t0 t1 t2
            go_wp2_with fail
            go_region_held3 (fun w' => w'.cell? ⟨w3.heap.size, 0, none⟩ = some (.int .u8 v'.st) ∧ w'.cell? ⟨w3.heap.size, 1, none⟩ = some (.int .i64 v'.turn) ∧ w'.cell? ⟨w3.heap.size, 2, none⟩ = some (.int .i64 v'.fails) ∧ w'.cell? ⟨w3.heap.size, 3, none⟩ = some (.int .i64 v'.at_))
              (first
                | go_keep
                | exact ⟨(hc4.cell (by simp) (by simp)).trans (by simp), (hc4.cell (by simp) (by simp)).trans (by simp), (hc4.cell (by simp) (by simp)).trans (by simp), (hc4.cell (by simp) (by simp)).trans (by simp)⟩
                | exact ⟨((hc4.trans hc5).cell (by simp) (by simp)).trans (by simp), ((hc4.trans hc5).cell (by simp) (by simp)).trans (by simp), ((hc4.trans hc5).cell (by simp) (by simp)).trans (by simp), ((hc4.trans hc5).cell (by simp) (by simp)).trans (by simp)⟩)
              (first
                | (go_at_call 24; refine (view_any _ x two v' ((HB3.out.alloc _).drew)).mono ?_; rintro e w4 ⟨rfl, hc4⟩)
                | (go_at_call 23; refine (alike_any v' _).mono ?_; rintro e w5 ⟨rfl, hc5⟩))
            have HC5 : Hid (Chg [x] wr w5) := (((HC3.out.alloc _).drew).trans' hc4 (by simp)).trans' hc5 (by simp)
            have HB5 := Lib.hid ((((HB3.out.alloc _).drew).chg hc4 (by simp)).chg hc5 (by simp))
            have K20 := Lib.hid ((((Blk.new w3 49 #[.int .u8 v'.st, .int .i64 v'.turn, .int .i64 v'.fails, .int .i64 v'.at_]).drew).chg hc4 (by simp)).chg hc5 (by simp))
            have K15b := Lib.hid ((((K15.out.alloc _).drew).chg hc4 (by simp)).chg hc5 (by simp))
            have hnx : ¬ x ∈ ([] : List Nat) := by simp
            have KC := Lib.hid (HR.out.md.chg HC5.out (by simp; exact fun e => by subst e; exact Blk.ne_ (HBx.out.b) HR.out.md (by decide) rfl))
            have HP5 := Lib.hid (ownsRow_chg HR.out.p HC5.out (by intro i hi hm; obtain rfl : i = x := (by simpa using hm); exact own_blk_ne HR.out.p HBx.out.b (by decide) hi))
            clear hc4 hc5 K15 HC3 HB3 hs3
            by_cases hpp : 0 < p'
            · have dp : decide (0 < p') = true := by simp [hpp]
              clear hpp
              have n20 := own_blk_ne HP5.out K20.out (by decide)
              have nC := own_blk_ne HP5.out KC.out (by decide)
              have n15 := own_blk_ne HP5.out K15b.out (by decide)
              have nX := own_blk_ne HP5.out HB5.out.b (by decide)
              have N1 := Lib.hid n20; have N2 := Lib.hid nC; have N3 := Lib.hid n15; have N4 := Lib.hid nX
              have hs5 : w.heap.size ≤ w5.heap.size := Nat.le_trans hsz HC5.out.size
              clear n20 nC n15 nX
              go_wp2_with (at_builtin; refine wpList_append_own_at _ rfl (.tmp 116) (.tmp 118) _ rfl w.heap.size 3 i0 _ 1 8 Try.underlying50 I0.out Z0.out Z1.out Z2.out rfl (by omega) (.slice P ps.length pc) ps.length (ps.map (.int .i64)) rfl (ownsRow_chg HP5.out ((Chg.refl [] w5).alloc _) (by simp)) ⟨w5.heap.size, 0, none⟩ 1 1 [.int .i64 p'] rfl rfl (cell_one_new _ _ _) (by simp [Value.oneCell']) (by simp only [maxLen]; omega) (by omega) (by simp; omega) ?_; intro v1 w7 hown hgrow hnil hat; have k20 := (K20.out.alloc _).grown hgrow (fun e => N1.out e.symm); have kc := (KC.out.alloc _).grown hgrow (fun e => N2.out e.symm); have k15' := (K15b.out.alloc _).grown hgrow (fun e => N3.out e.symm); have k15 := k15'.cell 0; simp at k15; obtain ⟨⟨c0, c1, c2, c3⟩, ⟨f0, f1, f2, f3⟩⟩ := kc.four; obtain ⟨⟨d0, d1, d2, d3⟩, -⟩ := k20.four; have HG := Lib.hid hgrow; have HO := Lib.hid hown; clear hgrow hown hnil hat k20 kc k15')
              go_roundg (gk - 1)
              case rel =>
                have hb7 : Brk w7 x two v' := ⟨(HB5.out.b.alloc _).grown HG.out (fun e => N4.out e.symm), HB5.out.t, HB5.out.v⟩
                have hc7 : Chg (x :: (Value.slice P ps.length pc).ownBlock.toList) wr w7 := ((HC5.out.mono (by simp)).alloc _).grown HG.out (fun i hi => .inl (by simp [hi]))
                refine ⟨k + 1, ps ++ [p'], va, v', by omega, by go_num, by simp; omega, ?_⟩
                exact HR.out.endB rfl hc7 hb7 (by simpa using HO.out)
              case measure => omega
            · have dp : decide (0 < p') = false := by simp [hpp]
              clear hpp
              have k15 := K15b.out.cell 0
              simp at k15
              obtain ⟨⟨c0, c1, c2, c3⟩, ⟨f0, f1, f2, f3⟩⟩ := KC.out.four
              obtain ⟨⟨d0, d1, d2, d3⟩, -⟩ := K20.out.four
              go_wp2_with fail
              go_roundg (gk - 1)
              case rel =>
                refine ⟨k + 1, ps, va, v', by omega, by go_num, by omega, ?_⟩
                exact HR.out.endB rfl (HC5.out.mono (by simp)) HB5.out HP5.out
              case measure => omega
      · go_wp2_with fail
        go_ret
        exact ⟨rfl, HR.out.below⟩
end Go.Proofs.Ythbeednmekajaaa
