import Derived.Test.YthbeednmekajaaaRaq4
namespace Go.Proofs.Ythbeednmekajaaa
open Go.RowKit

set_option maxRecDepth 100000 in
set_option maxHeartbeats 2000000 in
theorem qstep_note (w : World) (x g cap : Nat) (t : T) (v : V) (qs : List Q) (i : Nat) (q : Q) (hQ : QRace w x g cap t v qs) (hi : qs[i]? = some q) (hov : q.over = false) (hd : q.done = false) (hr : q.read = false) (hcap : qs.length ≤ 8796093022208) (heq : ¬ (doesQ t v q 0).1 = v) :
    Calls Try.prog 47 #[.pointer (some ⟨x, 0, none⟩), .int .i64 i] w (QPost w x g cap t (v, qs.set i { q with read := true, old := v, next := (doesQ t v q 0).1 })) := by
  obtain ⟨r7, hA, hl, hl'⟩ := hQ.seen hi
  have hb := hQ.blk
  rw [if_neg (by omega)] at hb
  have r3 := hb.cell 3
  have r4 := hb.cell 4
  have r5 := hb.cell 5
  have r6 := hb.cell 6
  simp at r3 r4 r5 r6
  have c0 := hA.c 0 _ rfl
  have c1 := hA.c 1 _ rfl
  have c2 := hA.c 2 _ rfl
  have c3 := hA.c 3 _ rfl
  have c4 := hA.c 4 _ rfl
  have c5 := hA.c 5 _ rfl
  have c6 := hA.c 6 _ rfl
  have c7 := hA.c 7 _ rfl
  have c8 := hA.c 8 _ rfl
  have c9 := hA.c 9 _ rfl
  have c10 := hA.c 10 _ rfl
  have c11 := hA.c 11 _ rfl
  have c12 := hA.c 12 _ rfl
  have c13 := hA.c 13 _ rfl
  have c14 := hA.c 14 _ rfl
  have c15 := hA.c 15 _ rfl
  have c16 := hA.c 16 _ rfl
  have f4 := hA.f (i * 17 + 4)
  have f5 := hA.f (i * 17 + 5)
  have f6 := hA.f (i * 17 + 6)
  have f7 := hA.f (i * 17 + 7)
  have f8 := hA.f (i * 17 + 8)
  have f9 := hA.f (i * 17 + 9)
  have f10 := hA.f (i * 17 + 10)
  have f11 := hA.f (i * 17 + 11)
  have f12 := hA.f (i * 17 + 12)
  have f13 := hA.f (i * 17 + 13)
  have f14 := hA.f (i * 17 + 14)
  have f15 := hA.f (i * 17 + 15)
  have f16 := hA.f (i * 17 + 16)
  rw [hov] at c16
  rw [hd] at c0
  rw [hr] at c4
  simp only [Nat.add_zero] at c0
  have hx := hQ.blk.lt
  have hg := hA.lt
  have hx1 : x < w.heap.size + 1 := by omega
  have hg1 : g < w.heap.size + 1 := by omega
  have hxg : ¬ g = x := fun e => hQ.ne e.symm
  have hxg' : ¬ x = g := hQ.ne
  have hgn : ¬ g = w.heap.size := by omega
  have hxn : ¬ x = w.heap.size := by omega
  have HW : Hid (QWaits qs q 0) := .inl hd
  have HQ := Lib.hid hQ; have HA := Lib.hid hA; have HI := Lib.hid hi
  clear hQ hA hi hov hd hr hb
  go_enter Try.func47, Try.ntmps47
  go_wp2_with fail
  refine (does_any _ x g cap t v v qs i q 0 (HQ.out.chg ((Chg.refl [] w).alloc (.cells #[.bool false, .int .i64 q.of_, .bool q.ok, .int .i64 q.now] 78)) (by simp) (by simp)) HI.out HW.out HQ.out.vok hcap).mono ?_
  rintro e w1 ⟨rfl, hv1, hc1⟩
  have hc1 : Chg [] w w1 := ((Chg.refl [] w).alloc (.cells #[.bool false, .int .i64 q.of_, .bool q.ok, .int .i64 q.now] 78)).trans hc1
  clear r3 r4 r5 r6 r7 c0 c1 c2 c3 c4 c5 c6 c7 c8 c9 c10 c11 c12 c13 c14 c15 c16 f4 f5 f6 f7 f8 f9 f10 f11 f12 f13 f14 f15 f16
  obtain ⟨w3, hw3, k6, k7, hc3, hs3⟩ := two_new w1 49 121 #[.int .u8 (doesQ t v q 0).1.st, .int .i64 (doesQ t v q 0).1.turn, .int .i64 (doesQ t v q 0).1.fails, .int .i64 (doesQ t v q 0).1.at_] #[.int .i64 (doesQ t v q 0).2.1, .int .i64 (doesQ t v q 0).2.2, .int .i64 q.tries]
  have HC3 := Lib.hid (hc1.trans hc3)
  have Q3 := HQ.out.chg HC3.out (by simp) (by simp)
  obtain ⟨r7, hA, -, -⟩ := Q3.seen HI.out
  have hb := Q3.blk
  rw [if_neg (by omega)] at hb
  have r3 := hb.cell 3
  have r4 := hb.cell 4
  have r5 := hb.cell 5
  have r6 := hb.cell 6
  simp at r3 r4 r5 r6
  have c0 := hA.c 0 _ rfl
  have c1 := hA.c 1 _ rfl
  have c2 := hA.c 2 _ rfl
  have c3 := hA.c 3 _ rfl
  have c4 := hA.c 4 _ rfl
  have c5 := hA.c 5 _ rfl
  have c6 := hA.c 6 _ rfl
  have c7 := hA.c 7 _ rfl
  have c8 := hA.c 8 _ rfl
  have c9 := hA.c 9 _ rfl
  have c10 := hA.c 10 _ rfl
  have c11 := hA.c 11 _ rfl
  have c12 := hA.c 12 _ rfl
  have c13 := hA.c 13 _ rfl
  have c14 := hA.c 14 _ rfl
  have c15 := hA.c 15 _ rfl
  have c16 := hA.c 16 _ rfl
  have f4 := hA.f (i * 17 + 4)
  have f5 := hA.f (i * 17 + 5)
  have f6 := hA.f (i * 17 + 6)
  have f7 := hA.f (i * 17 + 7)
  have f8 := hA.f (i * 17 + 8)
  have f9 := hA.f (i * 17 + 9)
  have f10 := hA.f (i * 17 + 10)
  have f11 := hA.f (i * 17 + 11)
  have f12 := hA.f (i * 17 + 12)
  have f13 := hA.f (i * 17 + 13)
  have f14 := hA.f (i * 17 + 14)
  have f15 := hA.f (i * 17 + 15)
  have f16 := hA.f (i * 17 + 16)
  obtain ⟨⟨a0, a1, a2, a3⟩, -⟩ := k6.four
  obtain ⟨⟨b0, b1, b2⟩, -⟩ := k7.three
  have h1s : w.heap.size ≤ w1.heap.size := hc1.size
  have n6 : ¬ g = w1.heap.size := by omega
  have n7 : ¬ g = w1.heap.size + 1 := by omega
  have n6' : ¬ w1.heap.size = g := by omega
  have n7' : ¬ w1.heap.size + 1 = g := by omega
  have HQ3 := Lib.hid Q3; have HW3 := Lib.hid hw3; have HV1 := Lib.hid hv1
  clear Q3 hA hb k6 k7 hc3 hc1 hs3 hw3 hv1
  have hcn := cell_ne _ _ heq
  clear heq
  go_upto_region 13 with fail
  rw [← HW3.out]
  go_quiet (fail)
  go_wp2_with fail
  refine wp_region_ser 0 11 (by kernel_rfl) (by kernel_rfl) ?_
  simp only [List.take_succ_cons, List.take_zero, List.drop_succ_cons, List.drop_zero]
  repeat still_step
  try refine wpStill_nil ?_
  go_wp2_with fail
  refine NoPanic.normal ?_
  go_wp2_with fail
  have h1 := (QW.start HQ.out HI.out).later hg (HC3.out.trans ((Chg.refl [] w3).drewN nq))
  have h2 := h1.run (q' := { q with read := true }) 4 (.bool true) (by omega) rfl HA.out.old HA.out.next HA.out.now
  have h11 := h2.old v HQ.out.vok
  have hcg : Chg [g] w3 (((((w3.drewN nq).setCell ⟨g, i * 17 + 4, none⟩ (.bool true)).setCell ⟨g, i * 17 + 5, none⟩ (.int .u8 v.st)).setCell ⟨g, i * 17 + 5 + 1, none⟩ (.int .i64 v.turn)).setCell ⟨g, i * 17 + 5 + 2, none⟩ (.int .i64 v.fails) |>.setCell ⟨g, i * 17 + 5 + 3, none⟩ (.int .i64 v.at_)) := (((((((Chg.refl _ _).drewN _).setCell (.inl (by simp)) _).setCell (.inl (by simp)) _).setCell (.inl (by simp)) _).setCell (.inl (by simp)) _).setCell (.inl (by simp)) _)
  have n6w : w1.heap.size < w3.heap.size := World.block_lt_of_cell? w3 _ a0
  have HA0 := Lib.hid a0; have HA1 := Lib.hid a1; have HA2 := Lib.hid a2; have HA3 := Lib.hid a3
  clear hcn a0 a1 a2 a3 b0 b1 b2 r3 r4 r5 r6 r7 c4 f4 c5 f5 c6 f6 c7 f7 c8 f8 c9 f9 c10 f10 c11 f11 c12 f12 c13 f13 c14 f14 c15 f15 c16 f16 c0 c1 c2 c3 h1 h2
  generalize (((((w3.drewN nq).setCell ⟨g, i * 17 + 4, none⟩ (.bool true)).setCell ⟨g, i * 17 + 5, none⟩ (.int .u8 v.st)).setCell ⟨g, i * 17 + 5 + 1, none⟩ (.int .i64 v.turn)).setCell ⟨g, i * 17 + 5 + 2, none⟩ (.int .i64 v.fails)).setCell ⟨g, i * 17 + 5 + 3, none⟩ (.int .i64 v.at_) = w4 at *
  have r7 := h11.blk.cell 7
  simp at r7
  have c9 := h11.at_.c 9 _ rfl
  have f9 := h11.at_.f (i * 17 + 9)
  have c10 := h11.at_.c 10 _ rfl
  have f10 := h11.at_.f (i * 17 + 10)
  have c11 := h11.at_.c 11 _ rfl
  have f11 := h11.at_.f (i * 17 + 11)
  have c12 := h11.at_.c 12 _ rfl
  have f12 := h11.at_.f (i * 17 + 12)
  simp only at c9 c10 c11 c12
  have a0 := (hcg.cell (p := ⟨w1.heap.size, 0, none⟩) n6w (by simp; omega)).trans HA0.out
  have a1 := (hcg.cell (p := ⟨w1.heap.size, 1, none⟩) n6w (by simp; omega)).trans HA1.out
  have a2 := (hcg.cell (p := ⟨w1.heap.size, 2, none⟩) n6w (by simp; omega)).trans HA2.out
  have a3 := (hcg.cell (p := ⟨w1.heap.size, 3, none⟩) n6w (by simp; omega)).trans HA3.out
  have H11 := Lib.hid h11
  clear h11 hcg HA0 HA1 HA2 HA3
  refine wp_region_ser 0 8 (by kernel_rfl) (by kernel_rfl) ?_
  simp only [List.take_succ_cons, List.take_zero, List.drop_succ_cons, List.drop_zero]
  repeat still_step
  try refine wpStill_nil ?_
  go_wp2_with fail
  refine NoPanic.normal ?_
  go_wp2_with fail
  go_ret
  have h19 := (H11.out.later hg ((Chg.refl [] w4).drewN (0 + 1 + 1))).nxt (doesQ t v q 0).1 HV1.out
  exact ⟨⟨_, rfl⟩, h19.close HQ.out HI.out HQ.out.vok, h19.only.c⟩

set_option maxRecDepth 100000 in
set_option maxHeartbeats 2000000 in
theorem qstep_miss (w : World) (x g cap : Nat) (t : T) (v : V) (qs : List Q) (i : Nat) (q : Q) (hQ : QRace w x g cap t v qs) (hi : qs[i]? = some q) (hov : q.over = false) (hd : q.done = false) (hr : q.read = true) (_hcap : qs.length ≤ 8796093022208) (htr : 0 ≤ q.tries ∧ q.tries ≤ 4611686018427387904) (heq : ¬ v = q.old) :
    Calls Try.prog 47 #[.pointer (some ⟨x, 0, none⟩), .int .i64 i] w (QPost w x g cap t (v, qs.set i { q with read := false, tries := q.tries + 1 })) := by
  obtain ⟨r7, hA, hl, hl'⟩ := hQ.seen hi
  have hb := hQ.blk
  rw [if_neg (by omega)] at hb
  have r3 := hb.cell 3
  have r4 := hb.cell 4
  have r5 := hb.cell 5
  have r6 := hb.cell 6
  simp at r3 r4 r5 r6
  have c0 := hA.c 0 _ rfl
  have c1 := hA.c 1 _ rfl
  have c2 := hA.c 2 _ rfl
  have c3 := hA.c 3 _ rfl
  have c4 := hA.c 4 _ rfl
  have c5 := hA.c 5 _ rfl
  have c6 := hA.c 6 _ rfl
  have c7 := hA.c 7 _ rfl
  have c8 := hA.c 8 _ rfl
  have c9 := hA.c 9 _ rfl
  have c10 := hA.c 10 _ rfl
  have c11 := hA.c 11 _ rfl
  have c12 := hA.c 12 _ rfl
  have c13 := hA.c 13 _ rfl
  have c14 := hA.c 14 _ rfl
  have c15 := hA.c 15 _ rfl
  have c16 := hA.c 16 _ rfl
  have f4 := hA.f (i * 17 + 4)
  have f5 := hA.f (i * 17 + 5)
  have f6 := hA.f (i * 17 + 6)
  have f7 := hA.f (i * 17 + 7)
  have f8 := hA.f (i * 17 + 8)
  have f9 := hA.f (i * 17 + 9)
  have f10 := hA.f (i * 17 + 10)
  have f11 := hA.f (i * 17 + 11)
  have f12 := hA.f (i * 17 + 12)
  have f13 := hA.f (i * 17 + 13)
  have f14 := hA.f (i * 17 + 14)
  have f15 := hA.f (i * 17 + 15)
  have f16 := hA.f (i * 17 + 16)
  rw [hov] at c16
  rw [hd] at c0
  rw [hr] at c4
  simp only [Nat.add_zero] at c0
  have hx := hQ.blk.lt
  have hg := hA.lt
  have hx1 : x < w.heap.size + 1 := by omega
  have hg1 : g < w.heap.size + 1 := by omega
  have hxg : ¬ g = x := fun e => hQ.ne e.symm
  have hxg' : ¬ x = g := hQ.ne
  have hgn : ¬ g = w.heap.size := by omega
  have hxn : ¬ x = w.heap.size := by omega
  have HW : Hid (QWaits qs q 0) := .inl hd
  have HQ := Lib.hid hQ; have HA := Lib.hid hA; have HI := Lib.hid hi
  clear hQ hA hi hov hd hr hb
  have hcn := cell_ne _ _ heq
  obtain ⟨ht0, ht1⟩ := htr
  have HEQ := Lib.hid heq
  clear heq
  go_enter Try.func47, Try.ntmps47
  go_wp2_with fail
  go_quiet (fail)
  have h1 := QW.start HQ.out HI.out
  have h2 := h1.run (q' := { q with read := false }) 4 (.bool false) (by omega) rfl HA.out.old HA.out.next HA.out.now
  have h3 := h2.run (q' := { q with read := false, tries := q.tries + 1 }) 15 (.int .i64 (q.tries + 1)) (by omega) rfl HA.out.old HA.out.next HA.out.now
  go_wp2_with fail
  go_ret
  have h4 := h3.later hg (((Chg.refl [] _).alloc (.cells #[.bool false, .int .i64 q.of_, .bool q.ok, .int .i64 q.now] 78)).drewN nq)
  exact ⟨⟨_, rfl⟩, h4.close HQ.out HI.out HQ.out.vok, h4.only.c⟩

set_option maxRecDepth 100000 in
set_option maxHeartbeats 2000000 in
theorem qstep_hit (w : World) (x g cap : Nat) (t : T) (v : V) (qs : List Q) (i : Nat) (q : Q) (hQ : QRace w x g cap t v qs) (hi : qs[i]? = some q) (hov : q.over = false) (hd : q.done = false) (hr : q.read = true) (hcap : qs.length ≤ 8796093022208) (htr : 0 ≤ q.tries ∧ q.tries ≤ 4611686018427387904) (heq : v = q.old) :
    Calls Try.prog 47 #[.pointer (some ⟨x, 0, none⟩), .int .i64 i] w (QPost w x g cap t (q.next, qs.set i { q with read := false, tries := q.tries + 1, pass := (doesQ t v q 0).2.1, code := (doesQ t v q 0).2.2, over := true })) := by
  obtain ⟨r7, hA, hl, hl'⟩ := hQ.seen hi
  have hb := hQ.blk
  rw [if_neg (by omega)] at hb
  have r3 := hb.cell 3
  have r4 := hb.cell 4
  have r5 := hb.cell 5
  have r6 := hb.cell 6
  simp at r3 r4 r5 r6
  have c0 := hA.c 0 _ rfl
  have c1 := hA.c 1 _ rfl
  have c2 := hA.c 2 _ rfl
  have c3 := hA.c 3 _ rfl
  have c4 := hA.c 4 _ rfl
  have c5 := hA.c 5 _ rfl
  have c6 := hA.c 6 _ rfl
  have c7 := hA.c 7 _ rfl
  have c8 := hA.c 8 _ rfl
  have c9 := hA.c 9 _ rfl
  have c10 := hA.c 10 _ rfl
  have c11 := hA.c 11 _ rfl
  have c12 := hA.c 12 _ rfl
  have c13 := hA.c 13 _ rfl
  have c14 := hA.c 14 _ rfl
  have c15 := hA.c 15 _ rfl
  have c16 := hA.c 16 _ rfl
  have f4 := hA.f (i * 17 + 4)
  have f5 := hA.f (i * 17 + 5)
  have f6 := hA.f (i * 17 + 6)
  have f7 := hA.f (i * 17 + 7)
  have f8 := hA.f (i * 17 + 8)
  have f9 := hA.f (i * 17 + 9)
  have f10 := hA.f (i * 17 + 10)
  have f11 := hA.f (i * 17 + 11)
  have f12 := hA.f (i * 17 + 12)
  have f13 := hA.f (i * 17 + 13)
  have f14 := hA.f (i * 17 + 14)
  have f15 := hA.f (i * 17 + 15)
  have f16 := hA.f (i * 17 + 16)
  rw [hov] at c16
  rw [hd] at c0
  rw [hr] at c4
  simp only [Nat.add_zero] at c0
  have hx := hQ.blk.lt
  have hg := hA.lt
  have hx1 : x < w.heap.size + 1 := by omega
  have hg1 : g < w.heap.size + 1 := by omega
  have hxg : ¬ g = x := fun e => hQ.ne e.symm
  have hxg' : ¬ x = g := hQ.ne
  have hgn : ¬ g = w.heap.size := by omega
  have hxn : ¬ x = w.heap.size := by omega
  have HW : Hid (QWaits qs q 0) := .inl hd
  have HQ := Lib.hid hQ; have HA := Lib.hid hA; have HI := Lib.hid hi
  have HD := Lib.hid hd
  clear hQ hA hi hov hd hr hb
  rw [← heq] at c5 c6 c7 c8
  obtain ⟨ht0, ht1⟩ := htr
  have HEQ := Lib.hid heq
  clear heq
  go_enter Try.func47, Try.ntmps47
  go_wp2_with fail
  go_quiet (fail)
  have h1 := QW.start HQ.out HI.out
  have h2 := h1.run (q' := { q with read := false }) 4 (.bool false) (by omega) rfl HA.out.old HA.out.next HA.out.now
  have h3 := h2.run (q' := { q with read := false, tries := q.tries + 1 }) 15 (.int .i64 (q.tries + 1)) (by omega) rfl HA.out.old HA.out.next HA.out.now
  have h4 := h3.later hg (((Chg.refl [] _).alloc (.cells #[.bool false, .int .i64 q.of_, .bool q.ok, .int .i64 q.now] 78)).drewN nq)
  have hQ4 := h4.close HQ.out HI.out HQ.out.vok
  have hw4 : QWaits (qs.set i { q with read := false, tries := q.tries + 1 }) { q with read := false, tries := q.tries + 1 } 0 := .inl HD.out
  have hi4 : (qs.set i { q with read := false, tries := q.tries + 1 })[i]? = some { q with read := false, tries := q.tries + 1 } := List.getElem?_set_self hl'
  have H4 := Lib.hid h4; have HQ4 := Lib.hid hQ4; have HW4 := Lib.hid hw4; have HI4 := Lib.hid hi4
  clear h1 h2 h3 h4 hQ4 hw4 hi4
  go_wp2_with fail
  refine (does_any _ x g cap t v v _ i { q with read := false, tries := q.tries + 1 } 0 HQ4.out HI4.out HW4.out HQ.out.vok (by simpa using hcap)).mono ?_
  rw [show doesQ t v { q with read := false, tries := q.tries + 1 } 0 = doesQ t v q 0 from rfl]
  rintro e w1 ⟨rfl, hv1, hc1⟩
  clear r3 r4 r5 r6 r7 c0 c1 c2 c3 c4 c5 c6 c7 c8 c9 c10 c11 c12 c13 c14 c15 c16 f4 f5 f6 f7 f8 f9 f10 f11 f12 f13 f14 f15 f16
  obtain ⟨w3, hw3, k6, k7, hc3, hs3⟩ := two_new w1 49 121 #[.int .u8 (doesQ t v q 0).1.st, .int .i64 (doesQ t v q 0).1.turn, .int .i64 (doesQ t v q 0).1.fails, .int .i64 (doesQ t v q 0).1.at_] #[.int .i64 (doesQ t v q 0).2.1, .int .i64 (doesQ t v q 0).2.2, .int .i64 (q.tries + 1)]
  have H5 := Lib.hid (H4.out.later hg (hc1.trans hc3))
  have hs1 : w.heap.size ≤ w1.heap.size := Nat.le_trans H4.out.only.c.size hc1.size
  have n7 : ¬ g = w1.heap.size + 1 := by omega
  have n7' : ¬ w1.heap.size + 1 = g := by omega
  have n8 : ¬ x = w1.heap.size + 1 := by omega
  have n8' : ¬ w1.heap.size + 1 = x := by omega
  have K7 := Lib.hid k7; have HW3 := Lib.hid hw3; have HV1 := Lib.hid hv1
  clear k6 k7 hc3 hc1 hs3 hw3 hv1
  have r3 := H5.out.blk.cell 3
  have r4 := H5.out.blk.cell 4
  have r5 := H5.out.blk.cell 5
  have r6 := H5.out.blk.cell 6
  have r7 := H5.out.blk.cell 7
  simp at r3 r4 r5 r6 r7
  have g3 := H5.out.blk.frozen 3
  have g4 := H5.out.blk.frozen 4
  have g5 := H5.out.blk.frozen 5
  have g6 := H5.out.blk.frozen 6
  have c9 := H5.out.at_.c 9 _ rfl
  have c10 := H5.out.at_.c 10 _ rfl
  have c11 := H5.out.at_.c 11 _ rfl
  have c12 := H5.out.at_.c 12 _ rfl
  simp only at c9 c10 c11 c12
  go_upto_region 25 with fail
  rw [← HW3.out]
  go_upto_region 26 with fail
  have h6 := H5.out.cell q.next
  have k8 := K7.out.chg (S := [x]) (((((Chg.refl _ _).setCell (p := ⟨x, 3, none⟩) (.inl (by simp)) (.int .u8 q.next.st)).setCell (p := ⟨x, 4, none⟩) (.inl (by simp)) (.int .i64 q.next.turn)).setCell (p := ⟨x, 5, none⟩) (.inl (by simp)) (.int .i64 q.next.fails)).setCell (p := ⟨x, 6, none⟩) (.inl (by simp)) (.int .i64 q.next.at_)) (by simp; omega)
  clear r3 r4 r5 r6 r7 g3 g4 g5 g6 c9 c10 c11 c12
  generalize ((((w3.setCell ⟨x, 3, none⟩ (.int .u8 q.next.st)).setCell ⟨x, 4, none⟩ (.int .i64 q.next.turn)).setCell ⟨x, 5, none⟩ (.int .i64 q.next.fails)).setCell ⟨x, 6, none⟩ (.int .i64 q.next.at_)) = w5 at *
  have r7 := h6.blk.cell 7
  simp at r7
  have c13 := h6.at_.c 13 _ rfl
  have c14 := h6.at_.c 14 _ rfl
  have c15 := h6.at_.c 15 _ rfl
  have c16 := h6.at_.c 16 _ rfl
  simp only at c13 c14 c15 c16
  have f13 := h6.at_.f (i * 17 + 13)
  have f14 := h6.at_.f (i * 17 + 14)
  have f15 := h6.at_.f (i * 17 + 15)
  have f16 := h6.at_.f (i * 17 + 16)
  obtain ⟨⟨b0, b1, b2⟩, -⟩ := k8.three
  have H6 := Lib.hid h6
  clear h6 k8
  refine wp_region_ser 0 8 (by kernel_rfl) (by kernel_rfl) ?_
  simp only [List.take_succ_cons, List.take_zero, List.drop_succ_cons, List.drop_zero]
  repeat still_step
  try refine wpStill_nil ?_
  go_wp2_with fail
  refine NoPanic.normal ?_
  go_wp2_with fail
  go_ret
  have h1 := H6.out.later hg ((Chg.refl [] w5).drew)
  have h2 := h1.run (q' := { q with read := false, tries := q.tries + 1, pass := (doesQ t v q 0).2.1 }) 13 _ (by omega) rfl HA.out.old HA.out.next HA.out.now
  have h3 := h2.run (q' := { q with read := false, tries := q.tries + 1, pass := (doesQ t v q 0).2.1, code := (doesQ t v q 0).2.2 }) 14 _ (by omega) rfl HA.out.old HA.out.next HA.out.now
  have h4 := h3.run (q' := { q with read := false, tries := q.tries + 1, pass := (doesQ t v q 0).2.1, code := (doesQ t v q 0).2.2 }) 15 (.int .i64 (q.tries + 1)) (by omega) rfl HA.out.old HA.out.next HA.out.now
  have h5 := h4.run (q' := { q with read := false, tries := q.tries + 1, pass := (doesQ t v q 0).2.1, code := (doesQ t v q 0).2.2, over := true }) 16 _ (by omega) rfl HA.out.old HA.out.next HA.out.now
  exact ⟨⟨_, rfl⟩, h5.close HQ.out HI.out HA.out.next, h5.only.c⟩

end Go.Proofs.Ythbeednmekajaaa
