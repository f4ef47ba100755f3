import Derived.Test.YthbeednmekajaaaRaq3
namespace Go.Proofs.Ythbeednmekajaaa
open Go.RowKit

theorem cell_ne (z v : V) (h : ¬ z = v) (w : World) : (binOp .eql 49 (.agg #[.int .u8 z.st, .int .i64 z.turn, .int .i64 z.fails, .int .i64 z.at_]) (.agg #[.int .u8 v.st, .int .i64 v.turn, .int .i64 v.fails, .int .i64 v.at_])).run Try.prog w = .ok (.bool false) w := by
  by_cases h0 : z.st = v.st
  · by_cases h1 : z.turn = v.turn
    · by_cases h2 : z.fails = v.fails
      · by_cases h3 : z.at_ = v.at_
        · obtain ⟨a, b, c, d⟩ := z
          obtain ⟨a', b', c', d'⟩ := v
          simp only at h0 h1 h2 h3
          subst h0 h1 h2 h3
          exact absurd rfl h
        · have e : (z.at_ == v.at_) = false := by simp [h3]
          go_simp
      · have e : (z.fails == v.fails) = false := by simp [h2]
        go_simp
    · have e : (z.turn == v.turn) = false := by simp [h1]
      go_simp
  · have e : (z.st == v.st) = false := by simp [h0]
    go_simp

/-- Two new blocks: what lies where. -/
theorem two_new (w : World) (t0 t1 : TypeId) (c0 c1 : Array Value) : ∃ w2, w2 = (w.alloc (.cells c0 t0)).alloc (.cells c1 t1) ∧ Blk w2 w.heap.size t0 c0 ∧ Blk w2 (w.heap.size + 1) t1 c1 ∧ Chg [] w w2 ∧ w2.heap.size = w.heap.size + 1 + 1 :=
  ⟨_, rfl, (Blk.new w _ _).alloc _, Blk.new' _ _ _ _ (by simp), ((Chg.refl _ _).alloc _).alloc _, by simp⟩

set_option maxRecDepth 100000 in
set_option maxHeartbeats 1000000 in
theorem qstep_cut (w : World) (x g cap : Nat) (t : T) (v : V) (qs : List Q) (i k : Nat) (q o : Q) (hQ : QRace w x g cap t v qs) (hi : qs[i]? = some q) (hov : q.over = false) (hd : q.done = true) (hof : q.of_ = k) (ho : qs[k]? = some o) (hoo : o.over = true) (hc : (o.code != 0) = true) :
    Calls Try.prog 47 #[.pointer (some ⟨x, 0, none⟩), .int .i64 i] w (QPost w x g cap t (v, qs.set i { q with code := 250, over := true })) := by
  obtain ⟨r7, hA, hl, hl'⟩ := hQ.seen hi
  obtain ⟨-, hO, hk, hk'⟩ := hQ.seen ho
  have c0 := hA.c 0 _ rfl
  have c1 := hA.c 1 _ rfl
  have c2 := hA.c 2 _ rfl
  have c3 := hA.c 3 _ rfl
  have c14 := hA.c 14 _ rfl
  have c16 := hA.c 16 _ rfl
  have o16 := hO.c 16 _ rfl
  have o14 := hO.c 14 _ rfl
  rw [hov] at c16
  rw [hd] at c0
  rw [hof] at c1
  rw [hoo] at o16
  simp only [Nat.add_zero] at c0
  have f14 := hA.f (i * 17 + 14)
  have f16 := hA.f (i * 17 + 16)
  have hx := hQ.blk.lt
  have hg := hA.lt
  have hx1 : x < w.heap.size + 1 := by omega
  have hg1 : g < w.heap.size + 1 := by omega
  have hxg : ¬ g = x := fun e => hQ.ne e.symm
  have hgn : ¬ g = w.heap.size := by omega
  have HQ := Lib.hid hQ; have HA := Lib.hid hA; have HI := Lib.hid hi
  clear hQ hA hO hi ho hov hd hof hoo
  go_enter Try.func47, Try.ntmps47
  go_wp2_with fail
  go_quiet (fail)
  obtain ⟨n1, hn1⟩ : ∃ n1 : Nat, n1 = nq := ⟨_, rfl⟩
  subst hn1
  go_wp2_with fail
  go_quiet (fail)
  go_wp2_with fail
  go_ret
  have h1 := (QW.start HQ.out HI.out).later hg ((((Chg.refl [] w).alloc (.cells #[.bool true, .int .i64 k, .bool q.ok, .int .i64 q.now] 78))).drewN (n1 + nq))
  have h2 := h1.run (q' := { q with code := 250 }) 14 _ (by omega) rfl HA.out.old HA.out.next HA.out.now
  have h3 := h2.run (q' := { q with code := 250, over := true }) 16 _ (by omega) rfl HA.out.old HA.out.next HA.out.now
  exact ⟨⟨_, rfl⟩, h3.close HQ.out HI.out HQ.out.vok, h3.only.c⟩

set_option maxRecDepth 100000 in
set_option maxHeartbeats 1000000 in
theorem qstep_read (w : World) (x g cap : Nat) (t : T) (v : V) (qs : List Q) (i : Nat) (q : Q) (hQ : QRace w x g cap t v qs) (hi : qs[i]? = some q) (hov : q.over = false) (hd : q.done = false) (hr : q.read = false) (hcap : qs.length ≤ 8796093022208)
    (heq : (doesQ t v q 0).1 = v) :
    Calls Try.prog 47 #[.pointer (some ⟨x, 0, none⟩), .int .i64 i] w (QPost w x g cap t (v, qs.set i { q with pass := (doesQ t v q 0).2.1, code := (doesQ t v q 0).2.2, over := true })) := by
  obtain ⟨r7, hA, hl, hl'⟩ := hQ.seen hi
  have hb := hQ.blk
  rw [if_neg (by omega)] at hb
  have r3 := hb.cell 3
  have r4 := hb.cell 4
  have r5 := hb.cell 5
  have r6 := hb.cell 6
  simp at r3 r4 r5 r6
  have c0 := hA.c 0 _ rfl
  have c1 := hA.c 1 _ rfl
  have c2 := hA.c 2 _ rfl
  have c3 := hA.c 3 _ rfl
  have c4 := hA.c 4 _ rfl
  have c16 := hA.c 16 _ rfl
  rw [hov] at c16
  rw [hd] at c0
  rw [hr] at c4
  simp only [Nat.add_zero] at c0
  have hx := hQ.blk.lt
  have hg := hA.lt
  have hx1 : x < w.heap.size + 1 := by omega
  have hg1 : g < w.heap.size + 1 := by omega
  have hxg : ¬ g = x := fun e => hQ.ne e.symm
  have hgn : ¬ g = w.heap.size := by omega
  have HQ := Lib.hid hQ; have HA := Lib.hid hA; have HW : Hid (QWaits qs q 0) := .inl hd; have HI := Lib.hid hi
  clear hQ hA hi hov hd hr hb
  go_enter Try.func47, Try.ntmps47
  go_wp2_with fail
  refine (does_any _ x g cap t v v qs i q 0 (HQ.out.chg ((Chg.refl [] _).alloc _) (by simp) (by simp)) HI.out HW.out HQ.out.vok hcap).mono ?_
  rintro e w1 ⟨rfl, hv1, hc1⟩
  have hc1 : Chg [] w w1 := ((Chg.refl [] w).alloc _).trans hc1
  clear r3 r4 r5 r6 r7 c0 c1 c2 c3 c4 c16
  obtain ⟨w3, hw3, k6, k7, hc3, hs3⟩ := two_new w1 49 121 #[.int .u8 (doesQ t v q 0).1.st, .int .i64 (doesQ t v q 0).1.turn, .int .i64 (doesQ t v q 0).1.fails, .int .i64 (doesQ t v q 0).1.at_] #[.int .i64 (doesQ t v q 0).2.1, .int .i64 (doesQ t v q 0).2.2, .int .i64 q.tries]
  have HC3 := Lib.hid (hc1.trans hc3)
  have Q3 := HQ.out.chg HC3.out (by simp) (by simp)
  obtain ⟨r7, hA, -, -⟩ := Q3.seen HI.out
  have hb := Q3.blk
  rw [if_neg (by omega)] at hb
  have r3 := hb.cell 3
  have r4 := hb.cell 4
  have r5 := hb.cell 5
  have r6 := hb.cell 6
  simp at r3 r4 r5 r6
  have c13 := hA.c 13 _ rfl
  have c14 := hA.c 14 _ rfl
  have c15 := hA.c 15 _ rfl
  have c16 := hA.c 16 _ rfl
  have f13 := hA.f (i * 17 + 13)
  have f14 := hA.f (i * 17 + 14)
  have f15 := hA.f (i * 17 + 15)
  have f16 := hA.f (i * 17 + 16)
  obtain ⟨⟨a0, a1, a2, a3⟩, -⟩ := k6.four
  obtain ⟨⟨b0, b1, b2⟩, -⟩ := k7.three
  have h1s : w.heap.size ≤ w1.heap.size := hc1.size
  have n6 : ¬ g = w1.heap.size := by omega
  have n7 : ¬ g = w1.heap.size + 1 := by omega
  have HQ3 := Lib.hid Q3; have HA3 := Lib.hid hA; have HW3 := Lib.hid hw3
  clear Q3 hA hb k6 k7 hc3 hc1 hs3 hw3
  rw [heq] at a0 a1 a2 a3
  have HEQ := Lib.hid heq
  clear heq
  go_upto_region 13 with fail
  rw [← HW3.out]
  go_quiet (fail)
  go_wp2_with fail
  refine wp_region_ser 0 8 (by kernel_rfl) (by kernel_rfl) ?_
  simp only [List.take_succ_cons, List.take_zero, List.drop_succ_cons, List.drop_zero]
  repeat still_step
  try refine wpStill_nil ?_
  go_wp2_with fail
  refine NoPanic.normal ?_
  go_wp2_with fail
  go_ret
  have h1 := (QW.start HQ.out HI.out).later hg (HC3.out.trans ((Chg.refl [] w3).drewN (nq + 1)))
  have h2 := h1.run (q' := { q with pass := (doesQ t v q 0).2.1 }) 13 _ (by omega) rfl HA.out.old HA.out.next HA.out.now
  have h3 := h2.run (q' := { q with pass := (doesQ t v q 0).2.1, code := (doesQ t v q 0).2.2 }) 14 _ (by omega) rfl HA.out.old HA.out.next HA.out.now
  have h4 := h3.run (q' := { q with pass := (doesQ t v q 0).2.1, code := (doesQ t v q 0).2.2 }) 15 (.int .i64 q.tries) (by omega) rfl HA.out.old HA.out.next HA.out.now
  have h5 := h4.run (q' := { q with pass := (doesQ t v q 0).2.1, code := (doesQ t v q 0).2.2, over := true }) 16 _ (by omega) rfl HA.out.old HA.out.next HA.out.now
  exact ⟨⟨_, rfl⟩, h5.close HQ.out HI.out HQ.out.vok, h5.only.c⟩
end Go.Proofs.Ythbeednmekajaaa
