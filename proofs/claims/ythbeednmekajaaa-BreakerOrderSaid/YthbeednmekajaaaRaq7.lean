import Derived.Test.YthbeednmekajaaaRaq4
namespace Go.Proofs.Ythbeednmekajaaa
open Go.RowKit

set_option maxRecDepth 100000 in
set_option maxHeartbeats 2000000 in
theorem qend_miss (w : World) (x g cap : Nat) (t : T) (v : V) (qs : List Q) (i : Nat) (q : Q) (k : Nat) (o : Q) (hof : q.of_ = k) (ho : qs[k]? = some o) (hoo : o.over = true) (hoc : o.code = 0) (hQ : QRace w x g cap t v qs) (hi : qs[i]? = some q) (hov : q.over = false) (hd : q.done = true) (hr : q.read = true) (_hcap : qs.length ≤ 8796093022208) (htr : 0 ≤ q.tries ∧ q.tries ≤ 4611686018427387904) (heq : ¬ v = q.old) :
    Calls Try.prog 47 #[.pointer (some ⟨x, 0, none⟩), .int .i64 i] w (QPost w x g cap t (v, qs.set i { q with read := false, tries := q.tries + 1 })) := by
  obtain ⟨r7, hA, hl, hl'⟩ := hQ.seen hi
  obtain ⟨-, hO, hk, hk'⟩ := hQ.seen ho
  have hb := hQ.blk
  rw [if_neg (by omega)] at hb
  have r3 := hb.cell 3
  have r4 := hb.cell 4
  have r5 := hb.cell 5
  have r6 := hb.cell 6
  simp at r3 r4 r5 r6
  have c0 := hA.c 0 _ rfl
  have c1 := hA.c 1 _ rfl
  have c2 := hA.c 2 _ rfl
  have c3 := hA.c 3 _ rfl
  have c4 := hA.c 4 _ rfl
  have c5 := hA.c 5 _ rfl
  have c6 := hA.c 6 _ rfl
  have c7 := hA.c 7 _ rfl
  have c8 := hA.c 8 _ rfl
  have c9 := hA.c 9 _ rfl
  have c10 := hA.c 10 _ rfl
  have c11 := hA.c 11 _ rfl
  have c12 := hA.c 12 _ rfl
  have c13 := hA.c 13 _ rfl
  have c14 := hA.c 14 _ rfl
  have c15 := hA.c 15 _ rfl
  have c16 := hA.c 16 _ rfl
  have f4 := hA.f (i * 17 + 4)
  have f5 := hA.f (i * 17 + 5)
  have f6 := hA.f (i * 17 + 6)
  have f7 := hA.f (i * 17 + 7)
  have f8 := hA.f (i * 17 + 8)
  have f9 := hA.f (i * 17 + 9)
  have f10 := hA.f (i * 17 + 10)
  have f11 := hA.f (i * 17 + 11)
  have f12 := hA.f (i * 17 + 12)
  have f13 := hA.f (i * 17 + 13)
  have f14 := hA.f (i * 17 + 14)
  have f15 := hA.f (i * 17 + 15)
  have f16 := hA.f (i * 17 + 16)
  have o16 := hO.c 16 _ rfl
  have o14 := hO.c 14 _ rfl
  rw [hov] at c16
  rw [hd] at c0
  rw [hr] at c4
  rw [hof] at c1
  rw [hoo] at o16
  rw [hoc] at o14
  simp only [Nat.add_zero] at c0
  have hx := hQ.blk.lt
  have hg := hA.lt
  have hx1 : x < w.heap.size + 1 := by omega
  have hg1 : g < w.heap.size + 1 := by omega
  have hxg : ¬ g = x := fun e => hQ.ne e.symm
  have hxg' : ¬ x = g := hQ.ne
  have hgn : ¬ g = w.heap.size := by omega
  have hxn : ¬ x = w.heap.size := by omega
  have HW : Hid (QWaits qs q o.pass) := .inr ⟨k, o, hd, hof, ho, rfl⟩
  have HQ := Lib.hid hQ; have HA := Lib.hid hA; have HI := Lib.hid hi
  clear hQ hA hi hov hd hr hb hO ho hof hoo hoc
  have hcn := cell_ne _ _ heq
  obtain ⟨ht0, ht1⟩ := htr
  have HEQ := Lib.hid heq
  clear heq
  go_enter Try.func47, Try.ntmps47
  go_wp2_with fail
  go_quiet (fail)
  obtain ⟨n1, hn1⟩ : ∃ n1 : Nat, n1 = nq := ⟨_, rfl⟩
  subst hn1
  go_wp2_with fail
  go_quiet (fail)
  obtain ⟨n2, hn2⟩ : ∃ n2 : Nat, n2 = nq := ⟨_, rfl⟩
  subst hn2
  go_wp2_with fail
  go_quiet (fail)
  have h1 := (QW.start HQ.out HI.out).later hg (((Chg.refl [] _).alloc (.cells #[.bool true, .int .i64 k, .bool q.ok, .int .i64 q.now] 78)).drewN (n1 + n2))
  have h2 := h1.run (q' := { q with read := false }) 4 (.bool false) (by omega) rfl HA.out.old HA.out.next HA.out.now
  have h3 := h2.run (q' := { q with read := false, tries := q.tries + 1 }) 15 (.int .i64 (q.tries + 1)) (by omega) rfl HA.out.old HA.out.next HA.out.now
  go_wp2_with fail
  go_ret
  have h4 := h3.later hg ((Chg.refl [] _).drewN nq)
  exact ⟨⟨_, rfl⟩, h4.close HQ.out HI.out HQ.out.vok, h4.only.c⟩

set_option maxRecDepth 100000 in
set_option maxHeartbeats 2000000 in
theorem qend_hit (w : World) (x g cap : Nat) (t : T) (v : V) (qs : List Q) (i : Nat) (q : Q) (k : Nat) (o : Q) (hof : q.of_ = k) (ho : qs[k]? = some o) (hoo : o.over = true) (hoc : o.code = 0) (hQ : QRace w x g cap t v qs) (hi : qs[i]? = some q) (hov : q.over = false) (hd : q.done = true) (hr : q.read = true) (hcap : qs.length ≤ 8796093022208) (htr : 0 ≤ q.tries ∧ q.tries ≤ 4611686018427387904) (heq : v = q.old) :
    Calls Try.prog 47 #[.pointer (some ⟨x, 0, none⟩), .int .i64 i] w (QPost w x g cap t (q.next, qs.set i { q with read := false, tries := q.tries + 1, pass := (doesQ t v q o.pass).2.1, code := (doesQ t v q o.pass).2.2, over := true })) := by
  obtain ⟨r7, hA, hl, hl'⟩ := hQ.seen hi
  obtain ⟨-, hO, hk, hk'⟩ := hQ.seen ho
  have hb := hQ.blk
  rw [if_neg (by omega)] at hb
  have r3 := hb.cell 3
  have r4 := hb.cell 4
  have r5 := hb.cell 5
  have r6 := hb.cell 6
  simp at r3 r4 r5 r6
  have c0 := hA.c 0 _ rfl
  have c1 := hA.c 1 _ rfl
  have c2 := hA.c 2 _ rfl
  have c3 := hA.c 3 _ rfl
  have c4 := hA.c 4 _ rfl
  have c5 := hA.c 5 _ rfl
  have c6 := hA.c 6 _ rfl
  have c7 := hA.c 7 _ rfl
  have c8 := hA.c 8 _ rfl
  have c9 := hA.c 9 _ rfl
  have c10 := hA.c 10 _ rfl
  have c11 := hA.c 11 _ rfl
  have c12 := hA.c 12 _ rfl
  have c13 := hA.c 13 _ rfl
  have c14 := hA.c 14 _ rfl
  have c15 := hA.c 15 _ rfl
  have c16 := hA.c 16 _ rfl
  have f4 := hA.f (i * 17 + 4)
  have f5 := hA.f (i * 17 + 5)
  have f6 := hA.f (i * 17 + 6)
  have f7 := hA.f (i * 17 + 7)
  have f8 := hA.f (i * 17 + 8)
  have f9 := hA.f (i * 17 + 9)
  have f10 := hA.f (i * 17 + 10)
  have f11 := hA.f (i * 17 + 11)
  have f12 := hA.f (i * 17 + 12)
  have f13 := hA.f (i * 17 + 13)
  have f14 := hA.f (i * 17 + 14)
  have f15 := hA.f (i * 17 + 15)
  have f16 := hA.f (i * 17 + 16)
  have o16 := hO.c 16 _ rfl
  have o14 := hO.c 14 _ rfl
  rw [hov] at c16
  rw [hd] at c0
  rw [hr] at c4
  rw [hof] at c1
  rw [hoo] at o16
  rw [hoc] at o14
  simp only [Nat.add_zero] at c0
  have hx := hQ.blk.lt
  have hg := hA.lt
  have hx1 : x < w.heap.size + 1 := by omega
  have hg1 : g < w.heap.size + 1 := by omega
  have hxg : ¬ g = x := fun e => hQ.ne e.symm
  have hxg' : ¬ x = g := hQ.ne
  have hgn : ¬ g = w.heap.size := by omega
  have hxn : ¬ x = w.heap.size := by omega
  have HW : Hid (QWaits qs q o.pass) := .inr ⟨k, o, hd, hof, ho, rfl⟩
  have HQ := Lib.hid hQ; have HA := Lib.hid hA; have HI := Lib.hid hi
  have hki : ¬ i = k := fun e => by subst e; rw [hi] at ho; injection ho with ho; subst ho; rw [hov] at hoo; cases hoo
  have HKI := Lib.hid hki; have HOF := Lib.hid hof; have HO := Lib.hid ho
  have HD := Lib.hid hd
  clear hQ hA hi hov hd hr hb hki hO ho hof hoo hoc
  rw [← heq] at c5 c6 c7 c8
  obtain ⟨ht0, ht1⟩ := htr
  have HEQ := Lib.hid heq
  clear heq
  go_enter Try.func47, Try.ntmps47
  go_wp2_with fail
  go_quiet (fail)
  obtain ⟨n1, hn1⟩ : ∃ n1 : Nat, n1 = nq := ⟨_, rfl⟩
  subst hn1
  go_wp2_with fail
  go_quiet (fail)
  obtain ⟨n2, hn2⟩ : ∃ n2 : Nat, n2 = nq := ⟨_, rfl⟩
  subst hn2
  go_wp2_with fail
  go_quiet (fail)
  have h1 := (QW.start HQ.out HI.out).later hg (((Chg.refl [] _).alloc (.cells #[.bool true, .int .i64 k, .bool q.ok, .int .i64 q.now] 78)).drewN (n1 + n2))
  have h2 := h1.run (q' := { q with read := false }) 4 (.bool false) (by omega) rfl HA.out.old HA.out.next HA.out.now
  have h3 := h2.run (q' := { q with read := false, tries := q.tries + 1 }) 15 (.int .i64 (q.tries + 1)) (by omega) rfl HA.out.old HA.out.next HA.out.now
  have h4 := h3.later hg ((Chg.refl [] _).drewN nq)
  have hQ4 := h4.close HQ.out HI.out HQ.out.vok
  have hki : ¬ i = k := HKI.out
  have hw4 : QWaits (qs.set i { q with read := false, tries := q.tries + 1 }) { q with read := false, tries := q.tries + 1 } o.pass := .inr ⟨k, o, HD.out, HOF.out, by rw [List.getElem?_set_ne hki]; exact HO.out, rfl⟩
  have hi4 : (qs.set i { q with read := false, tries := q.tries + 1 })[i]? = some { q with read := false, tries := q.tries + 1 } := List.getElem?_set_self hl'
  have H4 := Lib.hid h4; have HQ4 := Lib.hid hQ4; have HW4 := Lib.hid hw4; have HI4 := Lib.hid hi4
  clear h1 h2 h3 h4 hQ4 hw4 hi4 hki
  go_wp2_with fail
  refine (does_any _ x g cap t v v _ i { q with read := false, tries := q.tries + 1 } o.pass HQ4.out HI4.out HW4.out HQ.out.vok (by simpa using hcap)).mono ?_
  rw [show doesQ t v { q with read := false, tries := q.tries + 1 } o.pass = doesQ t v q o.pass from rfl]
  rintro e w1 ⟨rfl, hv1, hc1⟩
  clear r3 r4 r5 r6 r7 c0 c1 c2 c3 c4 c5 c6 c7 c8 c9 c10 c11 c12 c13 c14 c15 c16 f4 f5 f6 f7 f8 f9 f10 f11 f12 f13 f14 f15 f16 o14 o16
  obtain ⟨w3, hw3, k6, k7, hc3, hs3⟩ := two_new w1 49 121 #[.int .u8 (doesQ t v q o.pass).1.st, .int .i64 (doesQ t v q o.pass).1.turn, .int .i64 (doesQ t v q o.pass).1.fails, .int .i64 (doesQ t v q o.pass).1.at_] #[.int .i64 (doesQ t v q o.pass).2.1, .int .i64 (doesQ t v q o.pass).2.2, .int .i64 (q.tries + 1)]
  have H5 := Lib.hid (H4.out.later hg (hc1.trans hc3))
  have hs1 : w.heap.size ≤ w1.heap.size := Nat.le_trans H4.out.only.c.size hc1.size
  have n7 : ¬ g = w1.heap.size + 1 := by omega
  have n7' : ¬ w1.heap.size + 1 = g := by omega
  have n8 : ¬ x = w1.heap.size + 1 := by omega
  have n8' : ¬ w1.heap.size + 1 = x := by omega
  have K7 := Lib.hid k7; have HW3 := Lib.hid hw3; have HV1 := Lib.hid hv1
  clear k6 k7 hc3 hc1 hs3 hw3 hv1
  have r3 := H5.out.blk.cell 3
  have r4 := H5.out.blk.cell 4
  have r5 := H5.out.blk.cell 5
  have r6 := H5.out.blk.cell 6
  have r7 := H5.out.blk.cell 7
  simp at r3 r4 r5 r6 r7
  have g3 := H5.out.blk.frozen 3
  have g4 := H5.out.blk.frozen 4
  have g5 := H5.out.blk.frozen 5
  have g6 := H5.out.blk.frozen 6
  have c9 := H5.out.at_.c 9 _ rfl
  have c10 := H5.out.at_.c 10 _ rfl
  have c11 := H5.out.at_.c 11 _ rfl
  have c12 := H5.out.at_.c 12 _ rfl
  simp only at c9 c10 c11 c12
  go_upto_region 25 with fail
  rw [← HW3.out]
  go_upto_region 26 with fail
  have h6 := H5.out.cell q.next
  have k8 := K7.out.chg (S := [x]) (((((Chg.refl _ _).setCell (p := ⟨x, 3, none⟩) (.inl (by simp)) (.int .u8 q.next.st)).setCell (p := ⟨x, 4, none⟩) (.inl (by simp)) (.int .i64 q.next.turn)).setCell (p := ⟨x, 5, none⟩) (.inl (by simp)) (.int .i64 q.next.fails)).setCell (p := ⟨x, 6, none⟩) (.inl (by simp)) (.int .i64 q.next.at_)) (by simp; omega)
  clear r3 r4 r5 r6 r7 g3 g4 g5 g6 c9 c10 c11 c12
  generalize ((((w3.setCell ⟨x, 3, none⟩ (.int .u8 q.next.st)).setCell ⟨x, 4, none⟩ (.int .i64 q.next.turn)).setCell ⟨x, 5, none⟩ (.int .i64 q.next.fails)).setCell ⟨x, 6, none⟩ (.int .i64 q.next.at_)) = w5 at *
  have r7 := h6.blk.cell 7
  simp at r7
  have c13 := h6.at_.c 13 _ rfl
  have c14 := h6.at_.c 14 _ rfl
  have c15 := h6.at_.c 15 _ rfl
  have c16 := h6.at_.c 16 _ rfl
  simp only at c13 c14 c15 c16
  have f13 := h6.at_.f (i * 17 + 13)
  have f14 := h6.at_.f (i * 17 + 14)
  have f15 := h6.at_.f (i * 17 + 15)
  have f16 := h6.at_.f (i * 17 + 16)
  obtain ⟨⟨b0, b1, b2⟩, -⟩ := k8.three
  have H6 := Lib.hid h6
  clear h6 k8
  refine wp_region_ser 0 8 (by kernel_rfl) (by kernel_rfl) ?_
  simp only [List.take_succ_cons, List.take_zero, List.drop_succ_cons, List.drop_zero]
  repeat still_step
  try refine wpStill_nil ?_
  go_wp2_with fail
  refine NoPanic.normal ?_
  go_wp2_with fail
  go_ret
  have h1 := H6.out.later hg ((Chg.refl [] w5).drew)
  have h2 := h1.run (q' := { q with read := false, tries := q.tries + 1, pass := (doesQ t v q o.pass).2.1 }) 13 _ (by omega) rfl HA.out.old HA.out.next HA.out.now
  have h3 := h2.run (q' := { q with read := false, tries := q.tries + 1, pass := (doesQ t v q o.pass).2.1, code := (doesQ t v q o.pass).2.2 }) 14 _ (by omega) rfl HA.out.old HA.out.next HA.out.now
  have h4 := h3.run (q' := { q with read := false, tries := q.tries + 1, pass := (doesQ t v q o.pass).2.1, code := (doesQ t v q o.pass).2.2 }) 15 (.int .i64 (q.tries + 1)) (by omega) rfl HA.out.old HA.out.next HA.out.now
  have h5 := h4.run (q' := { q with read := false, tries := q.tries + 1, pass := (doesQ t v q o.pass).2.1, code := (doesQ t v q o.pass).2.2, over := true }) 16 _ (by omega) rfl HA.out.old HA.out.next HA.out.now
  exact ⟨⟨_, rfl⟩, h5.close HQ.out HI.out HA.out.next, h5.only.c⟩

end Go.Proofs.Ythbeednmekajaaa
