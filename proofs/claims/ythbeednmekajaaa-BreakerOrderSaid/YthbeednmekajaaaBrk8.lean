import Derived.Test.YthbeednmekajaaaBrk7
namespace Go.Proofs.Ythbeednmekajaaa
open Go.RowKit

def allowR (t : T) (v : V) (now : Int) : V × Int × Int := if tickB now then allowV t v now else (v, 0, 1)
def doneR (t : T) (v : V) (pass : Int) (ok : Bool) (now : Int) : V × Int := if tickB now then doneV t v pass ok now else (v, 1)

set_option maxHeartbeats 1000000 in
theorem new_yes (t : T) (w : World) (ht : TOk t = true) : Calls Try.prog 20 #[.agg #[.int .i64 t.F, .int .i64 t.W, .int .i64 t.S]] w fun e w' =>
    ∃ bb, w.heap.size ≤ bb ∧ e = .returned (.tuple #[.pointer (some ⟨bb, 0, none⟩), .int .i64 0]) ∧ Brk w' bb t v0 ∧ Chg [] w w' := by
  have H := Lib.hid ht; clear ht
  go_enter Try.func20, Try.ntmps20
  go_wp2_with fail
  refine (check_any t _).mono ?_
  rw [H.out]
  rintro e w1 ⟨rfl, hc⟩
  have hb : Blk w1 w.heap.size 46 _ := (Blk.new w _ _).chg hc (by simp)
  have z0 := hb.cell 0; have z1 := hb.cell 1; have z2 := hb.cell 2
  simp at z0 z1 z2
  have hs := hc.size
  simp at hs
  have HC := Lib.hid hc; have HS := Lib.hid hs
  clear hc hb hs
  go_wp2_with fail
  refine bodyPost_ret (v := .tuple #[.pointer (some ⟨w1.heap.size, 0, none⟩), .int .i64 0]) (by simp only [results, Try.results20]; go_simp) rfl ?_
  refine ⟨w1.heap.size, by have := HS.out; omega, rfl, ⟨Blk.new w1 _ _, H.out, v0_ok⟩, ?_⟩
  exact (((Chg.refl [] w).alloc _).trans HC.out).alloc _

set_option maxHeartbeats 1000000 in
theorem new_no (t : T) (w : World) (ht : TOk t = false) : Calls Try.prog 20 #[.agg #[.int .i64 t.F, .int .i64 t.W, .int .i64 t.S]] w fun e w' =>
    e = .returned (.tuple #[.pointer none, .int .i64 1]) ∧ Chg [] w w' := by
  have H := Lib.hid ht; clear ht
  go_enter Try.func20, Try.ntmps20
  go_wp2_with fail
  refine (check_any t _).mono ?_
  rw [H.out]
  rintro e w1 ⟨rfl, hc⟩
  have hb : Blk w1 w.heap.size 46 _ := (Blk.new w _ _).chg hc (by simp)
  have z0 := hb.cell 0; have z1 := hb.cell 1; have z2 := hb.cell 2
  simp at z0 z1 z2
  have HC := Lib.hid hc
  clear hc hb
  go_wp2_with fail
  refine bodyPost_ret (v := .tuple #[.pointer none, .int .i64 1]) (by simp only [results, Try.results20]; go_simp) rfl ?_
  exact ⟨rfl, ((Chg.refl [] w).alloc _).trans HC.out⟩

theorem view_any (w : World) (bb : Nat) (t : T) (v : V) (hB : Brk w bb t v) : Calls Try.prog 24 #[.pointer (some ⟨bb, 0, none⟩)] w fun e w' => e = .returned (av v) ∧ Chg [] w w' := by
  have c3 := hB.b.cell 3
  simp at c3
  have HB := Lib.hid hB; clear hB
  unfold av
  go_enter Try.func24, Try.ntmps24
  go_wp2_with fail
  refine (load_any bb (encV v) _ (((HB.out.b.alloc _).cell 3).trans rfl)).mono ?_
  rintro e w1 ⟨rfl, rfl⟩
  go_wp2_with fail
  refine (unword_any v _ HB.out.v).mono ?_
  rintro e w1 ⟨rfl, hc⟩
  have hb : Blk w1 w.heap.size 56 _ := (Blk.new w _ _).chg hc (by simp)
  have z0 := hb.cell 0; have z1 := hb.cell 1; have z2 := hb.cell 2; have z3 := hb.cell 3
  simp at z0 z1 z2 z3
  have f0 := hb.frozen 0; have f1 := hb.frozen 1; have f2 := hb.frozen 2; have f3 := hb.frozen 3
  have HC := Lib.hid hc
  clear hb hc
  go_wp2_with fail
  refine bodyPost_ret (v := .agg #[.int .u8 v.st, .int .i64 v.turn, .int .i64 v.fails, .int .i64 v.at_]) (by simp only [results, Try.results24]; go_simp) rfl ?_
  refine ⟨rfl, ?_⟩
  repeat (with_reducible first | exact ((Chg.refl [] w).alloc _).trans HC.out | refine Chg.drew ?_ | refine Chg.setCell ?_ (.inr (Nat.le_refl _)) _)

theorem view_nil (w : World) : Calls Try.prog 24 #[.pointer none] w fun e w' => e = .returned (av v0) ∧ Chg [] w w' := by
  unfold av v0
  go_enter Try.func24, Try.ntmps24
  go_wp2_with fail
  refine bodyPost_ret (v := .agg #[.int .u8 0, .int .i64 0, .int .i64 0, .int .i64 0]) (by simp only [results, Try.results24]; go_simp) rfl ?_
  refine ⟨rfl, ?_⟩
  repeat (with_reducible first | exact (Chg.refl [] w).alloc _ | refine Chg.drew ?_ | refine Chg.setCell ?_ (.inr (Nat.le_refl _)) _)
end Go.Proofs.Ythbeednmekajaaa
