import Derived.Test.YthbeednmekajaaaBrk9
import Derived.Test.YthbeednmekajaaaSer2
namespace Go.Proofs.Ythbeednmekajaaa
open Go.RowKit

/-- What one call of a script comes to: answered as the document says; the breaker stands so. -/
def LPost (bb : Nat) (t : T) (w : World) (e : Ending) (w' : World) : Prop :=
  ∃ v' p, e = .returned (.tuple #[.bool true, .agg #[.int .u8 v'.st, .int .i64 v'.turn, .int .i64 v'.fails, .int .i64 v'.at_], .int .i64 p]) ∧ Brk w' bb t v' ∧ Chg [bb] w w'

theorem lstep_frame {w w1 : World} {bb : Nat} {c0 c1 c2 c3 : Array Value} {S : List Nat} (hbl : bb < w.heap.size) (hc : Chg S ((((w.alloc (.cells c0 41)).alloc (.cells c1 49)).alloc (.cells c2 52)).alloc (.cells c3 49)) w1) (hS : ∀ i, i ∈ S → i = bb) :
    Blk w1 w.heap.size 41 c0 ∧ Blk w1 (w.heap.size + 1) 49 c1 ∧ Blk w1 (w.heap.size + 2) 52 c2 ∧ Blk w1 (w.heap.size + 3) 49 c3 := by
  have hn : ∀ k, w.heap.size ≤ k → k ∉ S := fun k hk hm => by have := hS k hm; omega
  refine ⟨Blk.chg ?_ hc (hn _ (by omega)), Blk.chg ?_ hc (hn _ (by omega)), Blk.chg ?_ hc (hn _ (by omega)), Blk.chg ?_ hc (hn _ (by omega))⟩
  · exact (((Blk.new w _ _).alloc _).alloc _).alloc _
  · exact ((Blk.new' _ _ _ _ (by simp)).alloc _).alloc _
  · exact (Blk.new' _ _ _ _ (by simp)).alloc _
  · exact Blk.new' _ _ _ _ (by simp)

theorem lclose {w w1 w2 : World} {bb : Nat} {t : T} {v : V} {c0 c1 c2 c3 : Array Value} (hbl : bb < w.heap.size) (hB : Brk w1 bb t v) (hc : Chg [bb] ((((w.alloc (.cells c0 41)).alloc (.cells c1 49)).alloc (.cells c2 52)).alloc (.cells c3 49)) w1) (h2 : Chg [w.heap.size + 3] w1 w2) :
    Brk w2 bb t v ∧ Chg [bb] w w2 :=
  ⟨hB.chg h2 (by simp; omega), (((((Chg.refl [bb] w).alloc _).alloc _).alloc _).alloc _).trans' hc (by simp) |>.trans' h2 (by simp)⟩

set_option maxRecDepth 100000 in
set_option maxHeartbeats 1000000 in
theorem lstep_allow (w : World) (bb : Nat) (t : T) (v : V) (who : Int) (hand : Bool) (i_ : Int) (ok : Bool) (now : Int) (P : Option Addr) (pl pc : Nat) (hB : Brk w bb t v) :
    Calls Try.prog 22 #[.pointer (some ⟨bb, 0, none⟩), .agg #[.int .i64 t.F, .int .i64 t.W, .int .i64 t.S], .agg #[.int .u8 v.st, .int .i64 v.turn, .int .i64 v.fails, .int .i64 v.at_], .agg #[.int .i64 who, .bool false, .bool hand, .int .i64 i_, .bool ok, .int .i64 now], .slice P pl pc] w (LPost bb t w) := by
  have hbl := hB.b.lt
  have HB := Lib.hid hB; clear hB
  go_enter Try.func22, Try.ntmps22
  go_wp2_with fail
  refine (Tick_any _ _).mono ?_
  rintro e w1 ⟨rfl, rfl⟩
  cases hn : tickB now
  · have HN := Lib.hid hn; clear hn
    go_wp2_with fail
    refine (Allow_any _ bb t v now ((((HB.out.alloc _).alloc _).alloc _).alloc _)).mono ?_
    rintro e w1 ⟨rfl, hB1, hc1⟩
    obtain ⟨k0, k1, k2, k3⟩ := lstep_frame hbl hc1 (by simp)
    simp only [allowR, HN.out, Bool.false_eq_true, if_false] at hB1 ⊢
    obtain ⟨⟨a0, a1, a2, a3⟩, ⟨b0, b1, b2, b3⟩⟩ := k1.four
    obtain ⟨⟨d0, d1, d2, d3⟩, ⟨g0, g1, g2, g3⟩⟩ := k3.four
    have HB1 := Lib.hid hB1; have HC1 := Lib.hid hc1
    clear hB1 hc1 k0 k1 k2 k3
    go_wp2_with fail
    go_region
    all_goals go_wp2_with fail
    all_goals refine bodyPost_ret (v := .tuple #[.bool true, .agg #[.int .u8 v.st, .int .i64 v.turn, .int .i64 v.fails, .int .i64 v.at_], .int .i64 0]) (by simp only [results, Try.results22]; go_simp) rfl ?_
    all_goals refine ⟨v, 0, rfl, lclose hbl HB1.out HC1.out ?_⟩
    all_goals repeat (with_reducible first | exact Chg.refl _ _ | refine Chg.drew ?_ | refine Chg.drewN ?_ _ | refine Chg.alloc ?_ _ | refine Chg.setCell ?_ (.inl (by simp)) _)
  · have HN := Lib.hid hn; clear hn
    go_wp2_with fail
    refine (Allow_any _ bb t v now ((((HB.out.alloc _).alloc _).alloc _).alloc _)).mono ?_
    rintro e w1 ⟨rfl, hB1, hc1⟩
    obtain ⟨k0, k1, k2, k3⟩ := lstep_frame hbl hc1 (by simp)
    simp only [allowR, HN.out, if_true] at hB1 ⊢
    obtain ⟨⟨l0, l1, l2⟩, -⟩ := k0.three
    obtain ⟨⟨a0, a1, a2, a3⟩, ⟨b0, b1, b2, b3⟩⟩ := k1.four
    have s5 := k2.cell 5
    simp at s5
    have HB1 := Lib.hid hB1; have HC1 := Lib.hid hc1
    have K3 := Lib.hid k3
    clear hB1 hc1 k0 k1 k2 k3
    go_wp2_with fail
    refine (rallow_any t v now _ HB.out.t HB.out.v HN.out).mono ?_
    rintro e w2 ⟨rfl, hc2⟩
    have K3b : Hid (Blk w2 (w.heap.size + 1 + 1 + 1) 49 _) := K3.out.chg hc2 (by simp)
    have HC2 : Hid (Chg [bb] _ w2) := HC1.out.trans' hc2 (by simp)
    have HB2 := Lib.hid (HB1.out.chg hc2 (by simp))
    clear hc2 s5 l0 l1 l2 a0 a1 a2 a3 b0 b1 b2 b3
    generalize (allowV t v now).1 = v' at *
    generalize (allowV t v now).2.1 = p' at *
    generalize (allowV t v now).2.2 = c' at *
    have q1 : (p' == p') = true := by simp
    have q2 : (c' == c') = true := by simp
    go_wp2_with fail
    have k3 := K3b.out.alloc (.cells #[.int .u8 v'.st, .int .i64 v'.turn, .int .i64 v'.fails, .int .i64 v'.at_] 49)
    have k4 := Blk.new w2 49 #[.int .u8 v'.st, .int .i64 v'.turn, .int .i64 v'.fails, .int .i64 v'.at_]
    have HB3 := Lib.hid (HB2.out.alloc (.cells #[.int .u8 v'.st, .int .i64 v'.turn, .int .i64 v'.fails, .int .i64 v'.at_] 49))
    have HC3 := Lib.hid (HC2.out.alloc (.cells #[.int .u8 v'.st, .int .i64 v'.turn, .int .i64 v'.fails, .int .i64 v'.at_] 49))
    have hne : ¬ w2.heap.size = w.heap.size + 1 + 1 + 1 := by have := HC2.out.size; simp at this; omega
    generalize w2.alloc (.cells #[.int .u8 v'.st, .int .i64 v'.turn, .int .i64 v'.fails, .int .i64 v'.at_] 49) = w3 at *
    obtain ⟨⟨a0, a1, a2, a3⟩, ⟨b0, b1, b2, b3⟩⟩ := k4.four
    obtain ⟨⟨d0, d1, d2, d3⟩, ⟨g0, g1, g2, g3⟩⟩ := k3.four
    clear k3 k4 b0 b1 b2 b3
    refine wp_region_pick [9] [0, 1, 2, 3, 4, 5, 6, 7, 8, 10] 11 (by kernel_rfl) (by kernel_rfl) ?_
    simp only [List.cons_append, List.nil_append, pickOps, List.getElem?_cons_succ, List.getElem?_cons_zero, List.drop_succ_cons, List.drop_zero]
    repeat still_step
    try refine wpStill_nil ?_
    go_wp2_with fail
    refine NoPanic.normal ?_
    go_wp2_with fail
    refine bodyPost_ret (v := .tuple #[.bool true, .agg #[.int .u8 v'.st, .int .i64 v'.turn, .int .i64 v'.fails, .int .i64 v'.at_], .int .i64 p']) (by simp only [results, Try.results22]; go_simp) rfl ?_
    refine ⟨v', p', rfl, lclose hbl HB3.out HC3.out ?_⟩
    repeat (with_reducible first | exact Chg.refl _ _ | refine Chg.drew ?_ | refine Chg.drewN ?_ _ | refine Chg.alloc ?_ _ | refine Chg.setCell ?_ (.inl (by simp)) _)
end Go.Proofs.Ythbeednmekajaaa
