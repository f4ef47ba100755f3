import Derived.Test.YthbeednmekajaaaBrk5
import Derived.Test.YthbeednmekajaaaSer
namespace Go.Proofs.Ythbeednmekajaaa
open Go.RowKit

theorem RunAt.alloc {w : World} {g o : Nat} {r : R} (h : RunAt w g o r) (ob : Obj) : RunAt (w.alloc ob) g o r := h.chg ((Chg.refl [] w).alloc ob) (by simp)
theorem RunAt.drew {w : World} {g o : Nat} {r : R} (h : RunAt w g o r) : RunAt w.drew g o r := ⟨h.c, h.f, h.old, h.next, h.now⟩
theorem Brk.alloc {w : World} {bb : Nat} {t : T} {v : V} (h : Brk w bb t v) (ob : Obj) : Brk (w.alloc ob) bb t v := ⟨h.b.alloc ob, h.t, h.v⟩
theorem Brk.drew {w : World} {bb : Nat} {t : T} {v : V} (h : Brk w bb t v) : Brk w.drew bb t v := ⟨h.b, h.t, h.v⟩


/-- What a reading step leaves, once the last three cells are written. -/
theorem read_close {w w3 : World} {bb g o : Nat} {t : T} {v x nv : V} {done : Bool} {of_ : Int} {ok : Bool} {now pass rp rc rt : Int} {over b : Bool} (hB : Brk w3 bb t v) (hR : RunAt w3 g o ⟨done, of_, ok, now, pass, rp, rc, rt, false, v, nv, over⟩)
    (hO : Only bb g o w w3) (hx : VOk x) (hne : bb ≠ g) :
    StepPost w bb g o t v ⟨done, of_, ok, now, pass, rp, rc, rt, b, v, x, !b⟩ (.returned (.tuple #[]))
      (((w3.setCell ⟨g, o + 10, none⟩ (.int .u64 (encV x))).setCell ⟨g, o + 8, none⟩ (.bool b)).setCell ⟨g, o + 11, none⟩ (.bool (!b))).drew := by
  refine StepPost.drew ⟨rfl, ((hB.far (p := ⟨g, o + 10, none⟩) hne _).far (p := ⟨g, o + 8, none⟩) hne _).far (p := ⟨g, o + 11, none⟩) hne _, ?_, ?_, ?_⟩
  · have h1 := hR.set (r' := ⟨done, of_, ok, now, pass, rp, rc, rt, false, v, x, over⟩) 10 (.int .u64 (encV x)) (by omega) rfl hB.v hx hR.now
    have h2 := h1.set (r' := ⟨done, of_, ok, now, pass, rp, rc, rt, b, v, x, over⟩) 8 (.bool b) (by omega) rfl hB.v hx hR.now
    exact h2.set (r' := ⟨done, of_, ok, now, pass, rp, rc, rt, b, v, x, !b⟩) 11 (.bool (!b)) (by omega) rfl hB.v hx hR.now
  · exact (((hO.run 10 (by omega) (.int .u64 (encV x))).run 8 (by omega) (.bool b)).run 11 (by omega) (.bool (!b))).c
  · exact (((hO.run 10 (by omega) (.int .u64 (encV x))).run 8 (by omega) (.bool b)).run 11 (by omega) (.bool (!b))).k

set_option maxRecDepth 100000 in
set_option maxHeartbeats 4000000 in
theorem step_rdone (w : World) (bb g o : Nat) (t : T) (v x : V) (code : Int) (of_ : Int) (ok : Bool) (now pass rp rc rt : Int) (ov nv : V) (over : Bool) (hB : Brk w bb t v) (hR : RunAt w g o ⟨true, of_, ok, now, pass, rp, rc, rt, false, ov, nv, over⟩) (hne : bb ≠ g) (hx : doneV t v pass ok now = (x, code)) (b : Bool) (hb : b = decide (¬ x = v)) :
    Calls Try.prog 59 #[.pointer (some ⟨bb, 0, none⟩), .pointer (some ⟨g, o, none⟩)] w (StepPost w bb g o t v ⟨true, of_, ok, now, pass, rp, code, rt, b, v, x, !b⟩) := by
  have hxo : VOk x := by have := doneV_ok hB.t hB.v pass ok hR.now; rw [hx] at this; exact this
  have heq : Hid ((encV x != encV v) = b) := by
    show _ = _
    subst hb
    by_cases e : x = v
    · subst e; simp
    · have : ¬ encV x = encV v := fun h => e (encV_inj hxo hB.v h)
      simp [this, e]
  obtain ⟨⟨c0, c1, c2, c3, c4⟩, ⟨c5, c6, c7⟩, c8, c9, c10, c11⟩ := hR.cells
  simp only at c0 c1 c2 c3 c4 c5 c6 c7 c8 c9 c10 c11
  have f9 := hR.f (o + 9)
  have b3 := hB.b.cell 3
  simp at b3
  have hne' : g ≠ bb := fun e => hne e.symm
  have HB := Lib.hid hB; have HR := Lib.hid hR; have HX := Lib.hid hx; have HXO := Lib.hid hxo
  have hgl := hR.lt
  have hbl := hB.b.lt
  clear hB hR hx hb hxo
  go_enter Try.func59, Try.ntmps59
  go_wp2_with fail
  refine (load_any bb _ _ b3).mono ?_
  rintro e w' ⟨rfl, rfl⟩
  go_wp2_with fail
  refine (unword_any v _ HB.out.v).mono ?_
  rintro e w1 ⟨rfl, hc1⟩
  have R1 : RunAt w1 g o ⟨true, of_, ok, now, pass, rp, rc, rt, false, v, nv, over⟩ := (HR.out.set (r' := ⟨true, of_, ok, now, pass, rp, rc, rt, false, v, nv, over⟩) 9 (.int .u64 (encV v)) (by omega) rfl HB.out.v HR.out.next HR.out.now).chg hc1 (by simp)
  have B1 : Brk w1 bb t v := (HB.out.far (p := ⟨g, o + 9, none⟩) hne _).chg hc1 (by simp)
  have O1 : Only bb g o w w1 := ((Only.refl bb g o w).run 9 (by omega) (.int .u64 (encV v))).later hgl hc1
  have HR1 := Lib.hid R1; have HB1 := Lib.hid B1; have HO1 := Lib.hid O1
  have hsz1 := hc1.size
  simp only [World.size_setCell] at hsz1
  clear c0 c1 c2 c3 c4 c5 c6 c7 c8 c9 c10 c11 b3 f9 hc1
  obtain ⟨⟨c0, c1, c2, c3, c4⟩, ⟨c5, c6, c7⟩, c8, c9, c10, c11⟩ := R1.cells
  simp only at c0 c1 c2 c3 c4 c5 c6 c7 c8 c9 c10 c11
  have d0 := B1.b.cell 0
  have d1 := B1.b.cell 1
  have d2 := B1.b.cell 2
  simp at d0 d1 d2
  have hgl1 := R1.lt
  have hbl1 := B1.b.lt
  clear R1 B1 O1
  go_wp2_with fail
  refine wp_region_ser 1 20 (by kernel_rfl) (by kernel_rfl) ?_
  simp only [List.take_succ_cons, List.take_zero, List.drop_succ_cons, List.drop_zero]
  repeat still_step
  try refine wpStill_nil ?_
  go_wp2_with (go_at_call 79; refine (done_any t v _ _ _ _ HB.out.t HB.out.v HR.out.now).mono ?_; rw [HX.out]; rintro e w2 ⟨rfl, hc2⟩; have R2 := ((HR1.out.alloc _).drew).chg hc2 (by simp); have B2 := ((HB1.out.alloc _).drew).chg hc2 (by simp); have T2 := ((Blk.new w1 56 #[.int .u8 v.st, .int .i64 v.turn, .int .i64 v.fails, .int .i64 v.at_]).drew).chg hc2 (by simp); have O2 := ((HO1.out.alloc hgl _).drew).later hgl hc2; have hsz2 := hc2.size; simp only [World.size_alloc, World.size_drew] at hsz2; obtain ⟨⟨k0, k1, k2, k3⟩, l0, l1, l2, l3⟩ := T2.four; have k6 := R2.c 6 _ rfl; have k5 := R2.c 5 _ rfl; have l6 := R2.f (o + 6); have l5 := R2.f (o + 5); have HR2 := Lib.hid R2; have HB2 := Lib.hid B2; have HT2 := Lib.hid T2; have HO2 := Lib.hid O2; clear R2 B2 T2 O2 hc2)
  refine NoPanic.normal ?_
  go_wp2_with fail
  refine (word_any x _ HXO.out).mono ?_
  rintro e w3 ⟨rfl, hc3⟩
  have hgn : g ≠ w1.heap.size := by omega
  have hgn' : w1.heap.size ≠ g := by omega
  have hbn : bb ≠ w1.heap.size := by omega
  have R3 : RunAt w3 g o ⟨true, of_, ok, now, pass, rp, code, rt, false, v, nv, over⟩ := ((((((HR2.out).far (p := ⟨w1.heap.size, 0, none⟩) hgn _).far (p := ⟨w1.heap.size, 1, none⟩) hgn _).far (p := ⟨w1.heap.size, 2, none⟩) hgn _).far (p := ⟨w1.heap.size, 3, none⟩) hgn _).set (r' := ⟨true, of_, ok, now, pass, rp, code, rt, false, v, nv, over⟩) 6 (.int .i64 code) (by omega) rfl HB.out.v HR.out.next HR.out.now).chg hc3 (by simp)
  have B3 : Brk w3 bb t v := (((((HB2.out.far (p := ⟨w1.heap.size, 0, none⟩) hbn _).far (p := ⟨w1.heap.size, 1, none⟩) hbn _).far (p := ⟨w1.heap.size, 2, none⟩) hbn _).far (p := ⟨w1.heap.size, 3, none⟩) hbn _).far (p := ⟨g, o + 5 + 1, none⟩) hne _).chg hc3 (by simp)
  have O3 : Only bb g o w w3 := (((((HO2.out.far (p := ⟨w1.heap.size, 0, none⟩) (.inr hsz1) hgn' _).far (p := ⟨w1.heap.size, 1, none⟩) (.inr hsz1) hgn' _).far (p := ⟨w1.heap.size, 2, none⟩) (.inr hsz1) hgn' _).far (p := ⟨w1.heap.size, 3, none⟩) (.inr hsz1) hgn' _).run 6 (by omega) (.int .i64 code)).later hgl hc3
  have HR3 := Lib.hid R3; have HB3 := Lib.hid B3; have HO3 := Lib.hid O3
  clear c0 c1 c2 c3 c4 c5 c6 c7 c8 c9 c10 c11 d0 d1 d2 k0 k1 k2 k3 l0 l1 l2 l3 k5 k6 l5 l6 hc3 hgn hgn' hbn
  obtain ⟨⟨c0, c1, c2, c3, c4⟩, ⟨c5, c6, c7⟩, c8, c9, c10, c11⟩ := R3.cells
  simp only at c0 c1 c2 c3 c4 c5 c6 c7 c8 c9 c10 c11
  have f8 := R3.f (o + 8)
  have f10 := R3.f (o + 10)
  have f11 := R3.f (o + 11)
  clear R3 B3 O3
  have hq := heq.out
  go_wp2_with fail
  go_region
  all_goals go_wp2_with fail
  all_goals refine bodyPost_ret (results_none rfl _ _ _) rfl ?_
  all_goals (with_reducible exact read_close HB3.out HR3.out HO3.out HXO.out hne)

set_option maxRecDepth 100000 in
set_option maxHeartbeats 4000000 in
theorem step_rallow (w : World) (bb g o : Nat) (t : T) (v x : V) (np code : Int) (of_ : Int) (ok : Bool) (now pass rp rc rt : Int) (ov nv : V) (over : Bool) (hB : Brk w bb t v) (hR : RunAt w g o ⟨false, of_, ok, now, pass, rp, rc, rt, false, ov, nv, over⟩) (hne : bb ≠ g) (hx : allowV t v now = (x, np, code)) (b : Bool) (hb : b = decide (¬ x = v)) :
    Calls Try.prog 59 #[.pointer (some ⟨bb, 0, none⟩), .pointer (some ⟨g, o, none⟩)] w (StepPost w bb g o t v ⟨false, of_, ok, now, pass, np, code, rt, b, v, x, !b⟩) := by
  have hxo : VOk x := by have := allowV_ok (t := t) hB.v now; rw [hx] at this; exact this
  have heq : Hid ((encV x != encV v) = b) := by
    show _ = _
    subst hb
    by_cases e : x = v
    · subst e; simp
    · have : ¬ encV x = encV v := fun h => e (encV_inj hxo hB.v h)
      simp [this, e]
  obtain ⟨⟨c0, c1, c2, c3, c4⟩, ⟨c5, c6, c7⟩, c8, c9, c10, c11⟩ := hR.cells
  simp only at c0 c1 c2 c3 c4 c5 c6 c7 c8 c9 c10 c11
  have f9 := hR.f (o + 9)
  have b3 := hB.b.cell 3
  simp at b3
  have hne' : g ≠ bb := fun e => hne e.symm
  have HB := Lib.hid hB; have HR := Lib.hid hR; have HX := Lib.hid hx; have HXO := Lib.hid hxo
  have hgl := hR.lt
  have hbl := hB.b.lt
  clear hB hR hx hb hxo
  go_enter Try.func59, Try.ntmps59
  go_wp2_with fail
  refine (load_any bb _ _ b3).mono ?_
  rintro e w' ⟨rfl, rfl⟩
  go_wp2_with fail
  refine (unword_any v _ HB.out.v).mono ?_
  rintro e w1 ⟨rfl, hc1⟩
  have R1 : RunAt w1 g o ⟨false, of_, ok, now, pass, rp, rc, rt, false, v, nv, over⟩ := (HR.out.set (r' := ⟨false, of_, ok, now, pass, rp, rc, rt, false, v, nv, over⟩) 9 (.int .u64 (encV v)) (by omega) rfl HB.out.v HR.out.next HR.out.now).chg hc1 (by simp)
  have B1 : Brk w1 bb t v := (HB.out.far (p := ⟨g, o + 9, none⟩) hne _).chg hc1 (by simp)
  have O1 : Only bb g o w w1 := ((Only.refl bb g o w).run 9 (by omega) (.int .u64 (encV v))).later hgl hc1
  have HR1 := Lib.hid R1; have HB1 := Lib.hid B1; have HO1 := Lib.hid O1
  have hsz1 := hc1.size
  simp only [World.size_setCell] at hsz1
  clear c0 c1 c2 c3 c4 c5 c6 c7 c8 c9 c10 c11 b3 f9 hc1
  obtain ⟨⟨c0, c1, c2, c3, c4⟩, ⟨c5, c6, c7⟩, c8, c9, c10, c11⟩ := R1.cells
  simp only at c0 c1 c2 c3 c4 c5 c6 c7 c8 c9 c10 c11
  have d0 := B1.b.cell 0
  have d1 := B1.b.cell 1
  have d2 := B1.b.cell 2
  simp at d0 d1 d2
  have hgl1 := R1.lt
  have hbl1 := B1.b.lt
  clear R1 B1 O1
  go_wp2_with fail
  refine wp_region_ser 2 12 (by kernel_rfl) (by kernel_rfl) ?_
  simp only [List.take_succ_cons, List.take_zero, List.drop_succ_cons, List.drop_zero]
  repeat still_step
  try refine wpStill_nil ?_
  go_wp2_with (go_at_call 80; refine (allow_any t v _ _ HB.out.t HB.out.v HR.out.now).mono ?_; unfold AllowPost; rw [HX.out]; rintro e w2 ⟨rfl, hc2⟩; have R2 := ((HR1.out.alloc _).drew).chg hc2 (by simp); have B2 := ((HB1.out.alloc _).drew).chg hc2 (by simp); have T2 := ((Blk.new w1 56 #[.int .u8 v.st, .int .i64 v.turn, .int .i64 v.fails, .int .i64 v.at_]).drew).chg hc2 (by simp); have O2 := ((HO1.out.alloc hgl _).drew).later hgl hc2; have hsz2 := hc2.size; simp only [World.size_alloc, World.size_drew] at hsz2; obtain ⟨⟨k0, k1, k2, k3⟩, l0, l1, l2, l3⟩ := T2.four; have k6 := R2.c 6 _ rfl; have k5 := R2.c 5 _ rfl; have l6 := R2.f (o + 6); have l5 := R2.f (o + 5); have HR2 := Lib.hid R2; have HB2 := Lib.hid B2; have HT2 := Lib.hid T2; have HO2 := Lib.hid O2; clear R2 B2 T2 O2 hc2)
  refine NoPanic.normal ?_
  go_wp2_with fail
  refine (word_any x _ HXO.out).mono ?_
  rintro e w3 ⟨rfl, hc3⟩
  have hgn : g ≠ w1.heap.size := by omega
  have hgn' : w1.heap.size ≠ g := by omega
  have hbn : bb ≠ w1.heap.size := by omega
  have R3 : RunAt w3 g o ⟨false, of_, ok, now, pass, np, code, rt, false, v, nv, over⟩ := (((((((HR2.out).far (p := ⟨w1.heap.size, 0, none⟩) hgn _).far (p := ⟨w1.heap.size, 1, none⟩) hgn _).far (p := ⟨w1.heap.size, 2, none⟩) hgn _).far (p := ⟨w1.heap.size, 3, none⟩) hgn _).set (r' := ⟨false, of_, ok, now, pass, np, rc, rt, false, v, nv, over⟩) 5 (.int .i64 np) (by omega) rfl HB.out.v HR.out.next HR.out.now).set (r' := ⟨false, of_, ok, now, pass, np, code, rt, false, v, nv, over⟩) 6 (.int .i64 code) (by omega) rfl HB.out.v HR.out.next HR.out.now).chg hc3 (by simp)
  have B3 : Brk w3 bb t v := ((((((HB2.out.far (p := ⟨w1.heap.size, 0, none⟩) hbn _).far (p := ⟨w1.heap.size, 1, none⟩) hbn _).far (p := ⟨w1.heap.size, 2, none⟩) hbn _).far (p := ⟨w1.heap.size, 3, none⟩) hbn _).far (p := ⟨g, o + 5, none⟩) hne _).far (p := ⟨g, o + 5 + 1, none⟩) hne _).chg hc3 (by simp)
  have O3 : Only bb g o w w3 := ((((((HO2.out.far (p := ⟨w1.heap.size, 0, none⟩) (.inr hsz1) hgn' _).far (p := ⟨w1.heap.size, 1, none⟩) (.inr hsz1) hgn' _).far (p := ⟨w1.heap.size, 2, none⟩) (.inr hsz1) hgn' _).far (p := ⟨w1.heap.size, 3, none⟩) (.inr hsz1) hgn' _).run 5 (by omega) (.int .i64 np)).run 6 (by omega) (.int .i64 code)).later hgl hc3
  have HR3 := Lib.hid R3; have HB3 := Lib.hid B3; have HO3 := Lib.hid O3
  clear c0 c1 c2 c3 c4 c5 c6 c7 c8 c9 c10 c11 d0 d1 d2 k0 k1 k2 k3 l0 l1 l2 l3 k5 k6 l5 l6 hc3 hgn hgn' hbn
  obtain ⟨⟨c0, c1, c2, c3, c4⟩, ⟨c5, c6, c7⟩, c8, c9, c10, c11⟩ := R3.cells
  simp only at c0 c1 c2 c3 c4 c5 c6 c7 c8 c9 c10 c11
  have f8 := R3.f (o + 8)
  have f10 := R3.f (o + 10)
  have f11 := R3.f (o + 11)
  clear R3 B3 O3
  have hq := heq.out
  go_wp2_with fail
  go_region
  all_goals go_wp2_with fail
  all_goals refine bodyPost_ret (results_none rfl _ _ _) rfl ?_
  all_goals (with_reducible exact read_close HB3.out HR3.out HO3.out HXO.out hne)
end Go.Proofs.Ythbeednmekajaaa
