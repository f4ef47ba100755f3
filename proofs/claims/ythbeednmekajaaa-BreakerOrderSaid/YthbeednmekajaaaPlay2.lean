import Derived.Test.YthbeednmekajaaaPlay1
namespace Go.Proofs.Ythbeednmekajaaa
open Go.RowKit

/-- The passes lie there, apart from the breaker. -/
def PassesAt (w : World) (P : Option Addr) (pl : Nat) : Prop := ∀ j, j < pl → ∃ g x, P = some ⟨g, 0, none⟩ ∧ g < w.heap.size ∧ w.cell? ⟨g, j, none⟩ = some (.int .i64 x)

set_option maxRecDepth 100000 in
set_option maxHeartbeats 1000000 in
theorem lstep_done (w : World) (bb : Nat) (t : T) (v : V) (who : Int) (hand : Bool) (i_ : Int) (ok : Bool) (now : Int) (P : Option Addr) (pl pc : Nat) (hB : Brk w bb t v) (hp : PassesAt w P pl) (hpl : pl ≤ 8796093022208) :
    Calls Try.prog 22 #[.pointer (some ⟨bb, 0, none⟩), .agg #[.int .i64 t.F, .int .i64 t.W, .int .i64 t.S], .agg #[.int .u8 v.st, .int .i64 v.turn, .int .i64 v.fails, .int .i64 v.at_], .agg #[.int .i64 who, .bool true, .bool hand, .int .i64 i_, .bool ok, .int .i64 now], .slice P pl pc] w (LPost bb t w) := by
  have hbl := hB.b.lt
  have HB := Lib.hid hB; clear hB
  have cases4 : Hid ((hand = true) ∨ (hand = false ∧ pl = 0) ∨ (hand = false ∧ 0 < pl ∧ i_ < 0) ∨ (hand = false ∧ 0 < pl ∧ ∃ iN : Nat, i_ = iN)) := by
    show _ ∨ _
    cases hand
    · right
      by_cases h0 : pl = 0
      · exact .inl ⟨rfl, h0⟩
      · by_cases h1 : i_ < 0
        · exact .inr (.inl ⟨rfl, by omega, h1⟩)
        · exact .inr (.inr ⟨rfl, by omega, i_.toNat, by omega⟩)
    · exact .inl rfl
  go_enter Try.func22, Try.ntmps22
  go_wp2_with fail
  refine (Tick_any _ _).mono ?_
  rintro e w1 ⟨rfl, rfl⟩
  rcases cases4.out with rfl | ⟨rfl, rfl⟩ | ⟨rfl, h0, h1⟩ | ⟨rfl, h0, iN, rfl⟩
  case' inl =>
    clear cases4
    go_wp2_with fail
  case' inr.inl =>
    clear cases4
    go_wp2_with fail
  case' inr.inr.inl =>
    clear cases4
    have d1 : decide (0 < (pl : Int)) = true := by simp; omega
    have d2 : decide (0 ≤ i_) = false := by simp; omega
    go_wp2_with fail
  case' inr.inr.inr =>
    clear cases4
    have d1 : decide (0 < (pl : Int)) = true := by simp; omega
    obtain ⟨q, hq, ht⟩ : ∃ q : Nat, q < pl ∧ Int.tmod (iN : Int) (pl : Int) = (q : Int) := ⟨iN % pl, Nat.mod_lt iN h0, rfl⟩
    obtain ⟨g, x, rfl, hg, hc⟩ := hp _ hq
    have hz : ¬ (pl : Int) = 0 := by omega
    have hz2 : ¬ pl = 0 := by omega
    have HP := Lib.hid hp
    have hc4 : ∀ o0 o1 o2 o3, ((((w.alloc o0).alloc o1).alloc o2).alloc o3).cell? ⟨g, q, none⟩ = some (.int .i64 x) := fun o0 o1 o2 o3 =>
      ((((((Chg.refl [] w).alloc o0).alloc o1).alloc o2).alloc o3).cell (p := ⟨g, q, none⟩) hg (by simp)).trans hc
    clear hp hc
    go_wp2_with fail
  all_goals
    refine (Done_any _ bb t v _ ok now ((((HB.out.alloc _).alloc _).alloc _).alloc _)).mono ?_
    rintro e w1 ⟨rfl, hB1, hc1⟩
    obtain ⟨k0, k1, k2, k3⟩ := lstep_frame hbl hc1 (by simp)
    cases hn : tickB now
    · have HN := Lib.hid hn; clear hn
      simp only [doneR, HN.out, Bool.false_eq_true, if_false] at hB1 ⊢
      obtain ⟨⟨a0, a1, a2, a3⟩, ⟨b0, b1, b2, b3⟩⟩ := k1.four
      obtain ⟨⟨d0, d1, d2, d3⟩, ⟨g0, g1, g2, g3⟩⟩ := k3.four
      have HB1 := Lib.hid hB1; have HC1 := Lib.hid hc1
      clear hB1 hc1 k0 k1 k2 k3
      go_wp2_with fail
      go_region
      all_goals go_wp2_with fail
      all_goals refine bodyPost_ret (v := .tuple #[.bool true, .agg #[.int .u8 v.st, .int .i64 v.turn, .int .i64 v.fails, .int .i64 v.at_], .int .i64 0]) (by simp only [results, Try.results22]; go_simp) rfl ?_
      all_goals refine ⟨v, 0, rfl, lclose hbl HB1.out HC1.out ?_⟩
      all_goals repeat (with_reducible first | exact Chg.refl _ _ | refine Chg.drew ?_ | refine Chg.drewN ?_ _ | refine Chg.alloc ?_ _ | refine Chg.setCell ?_ (.inl (by simp)) _)
    · have HN := Lib.hid hn; clear hn
      simp only [doneR, HN.out, if_true] at hB1 ⊢
      obtain ⟨⟨l0, l1, l2⟩, -⟩ := k0.three
      obtain ⟨⟨a0, a1, a2, a3⟩, ⟨b0, b1, b2, b3⟩⟩ := k1.four
      have s4 := k2.cell 4
      have s5 := k2.cell 5
      simp at s4 s5
      have HB1 := Lib.hid hB1; have HC1 := Lib.hid hc1
      have K3 := Lib.hid k3
      clear hB1 hc1 k0 k1 k2 k3
      go_wp2_with fail
      refine (rdone_any t v _ ok now _ HB.out.t HB.out.v HN.out).mono ?_
      rintro e w2 ⟨rfl, hc2⟩
      have K3b : Hid (Blk w2 (w.heap.size + 1 + 1 + 1) 49 _) := K3.out.chg hc2 (by simp)
      have HC2 : Hid (Chg [bb] _ w2) := HC1.out.trans' hc2 (by simp)
      have HB2 := Lib.hid (HB1.out.chg hc2 (by simp))
      clear hc2 s4 s5 l0 l1 l2 a0 a1 a2 a3 b0 b1 b2 b3 HB1 HC1 K3
      generalize doneV t v _ ok now = r at *
      have q1 : (r.2 == r.2) = true := by simp
      go_wp2_with fail
      have k3 := K3b.out.alloc (.cells #[.int .u8 r.1.st, .int .i64 r.1.turn, .int .i64 r.1.fails, .int .i64 r.1.at_] 49)
      have k4 := Blk.new w2 49 #[.int .u8 r.1.st, .int .i64 r.1.turn, .int .i64 r.1.fails, .int .i64 r.1.at_]
      have HB3 := Lib.hid (HB2.out.alloc (.cells #[.int .u8 r.1.st, .int .i64 r.1.turn, .int .i64 r.1.fails, .int .i64 r.1.at_] 49))
      have HC3 := Lib.hid (HC2.out.alloc (.cells #[.int .u8 r.1.st, .int .i64 r.1.turn, .int .i64 r.1.fails, .int .i64 r.1.at_] 49))
      have hne : ¬ w2.heap.size = w.heap.size + 1 + 1 + 1 := by have := HC2.out.size; simp at this; omega
      clear HB2 HC2 K3b
      generalize w2.alloc (.cells #[.int .u8 r.1.st, .int .i64 r.1.turn, .int .i64 r.1.fails, .int .i64 r.1.at_] 49) = w3 at *
      obtain ⟨⟨a0, a1, a2, a3⟩, ⟨b0, b1, b2, b3⟩⟩ := k4.four
      obtain ⟨⟨d0, d1, d2, d3⟩, ⟨g0, g1, g2, g3⟩⟩ := k3.four
      clear k3 k4 b0 b1 b2 b3
      go_region
      all_goals go_wp2_with fail
      all_goals refine bodyPost_ret (v := .tuple #[.bool true, .agg #[.int .u8 r.1.st, .int .i64 r.1.turn, .int .i64 r.1.fails, .int .i64 r.1.at_], .int .i64 0]) (by simp only [results, Try.results22]; go_simp) rfl ?_
      all_goals refine ⟨r.1, 0, rfl, lclose hbl HB3.out HC3.out ?_⟩
      all_goals repeat (with_reducible first | exact Chg.refl _ _ | refine Chg.drew ?_ | refine Chg.drewN ?_ _ | refine Chg.alloc ?_ _ | refine Chg.setCell ?_ (.inl (by simp)) _)
end Go.Proofs.Ythbeednmekajaaa
