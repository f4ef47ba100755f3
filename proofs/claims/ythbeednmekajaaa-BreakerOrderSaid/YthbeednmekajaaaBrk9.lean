import Derived.Test.YthbeednmekajaaaBrk8
namespace Go.Proofs.Ythbeednmekajaaa
open Go.RowKit

theorem rcells_r0 (done : Bool) (of_ : Int) (ok : Bool) (now pass : Int) : rcells (r0 done of_ ok now pass) = [.bool done, .int .i64 of_, .bool ok, .int .i64 now, .int .i64 pass, .int .i64 0, .int .i64 0, .int .i64 0, .bool false, .int .u64 0, .int .u64 0, .bool false] := by
  simp only [rcells, r0, encV_v0]

theorem run_new (w : World) (done : Bool) (of_ : Int) (ok : Bool) (now pass : Int) (hn : tickB now = true) :
    RunAt (w.alloc (.cells #[.bool done, .int .i64 of_, .bool ok, .int .i64 now, .int .i64 pass, .int .i64 0, .int .i64 0, .int .i64 0, .bool false, .int .u64 0, .int .u64 0, .bool false] 116)) w.heap.size 0 (r0 done of_ ok now pass) := by
  have hb := Blk.new w 116 #[.bool done, .int .i64 of_, .bool ok, .int .i64 now, .int .i64 pass, .int .i64 0, .int .i64 0, .int .i64 0, .bool false, .int .u64 0, .int .u64 0, .bool false]
  exact ⟨fun k u h => by rw [rcells_r0] at h; rw [Nat.zero_add, hb.cell k]; simpa using h, hb.frozen, v0_ok, v0_ok, hn⟩

theorem field_code (a b c : Int) (w : World) : (Instr.field 80 (.agg #[.int .i64 a, .int .i64 b, .int .i64 c]) 1).run Try.prog w = .ok (.int .i64 b) w := by kernel_rfl

set_option maxHeartbeats 1000000 in
theorem Allow_any (w : World) (bb : Nat) (t : T) (v : V) (now : Int) (hB : Brk w bb t v) : Calls Try.prog 28 #[.pointer (some ⟨bb, 0, none⟩), .int .i64 now] w fun e w' =>
    e = .returned (.tuple #[.int .i64 (allowR t v now).2.1, .int .i64 (allowR t v now).2.2]) ∧ Brk w' bb t (allowR t v now).1 ∧ Chg [bb] w w' := by
  have hbl := hB.b.lt
  have HB := Lib.hid hB; clear hB
  unfold allowR
  cases hn : tickB now
  · have HN := Lib.hid hn; clear hn
    simp only [Bool.false_eq_true, if_false]
    go_enter Try.func28, Try.ntmps28
    go_wp2_with fail
    refine (tick_no _ _ HN.out).mono ?_
    rintro e w' ⟨rfl, rfl⟩
    go_wp2_with fail
    refine bodyPost_ret (v := .tuple #[.int .i64 0, .int .i64 1]) (by simp only [results, Try.results28]; go_simp) rfl ?_
    exact ⟨rfl, HB.out, Chg.refl _ _⟩
  · have HN := Lib.hid hn; clear hn
    simp only [if_true]
    go_enter Try.func28, Try.ntmps28
    go_wp2_with fail
    refine (tick_yes _ _ HN.out).mono ?_
    rintro e w' ⟨rfl, rfl⟩
    go_wp2_with fail
    refine (finish_any _ bb w.heap.size t v false 0 false now 0 (HB.out.alloc _) (run_new w _ _ _ _ _ HN.out) (Nat.ne_of_lt hbl)).mono ?_
    rintro e w1 ⟨rt, rfl, hB1, hc1⟩
    show _
    simp only [callR, r0, Bool.false_eq_true, if_false] at hB1 ⊢
    have HB1 := Lib.hid hB1
    have HC : Hid (Chg [bb] w w1) := ((Chg.refl [bb] w).alloc _).trans' hc1 (by simp)
    clear hB1 hc1
    go_wp2_with fail
    go_quiet (fail)
    go_wp2_with fail
    refine bodyPost_ret (v := .tuple #[.int .i64 (allowV t v now).2.1, .int .i64 (allowV t v now).2.2]) (by simp only [results, Try.results28]; go_simp) rfl ?_
    refine ⟨rfl, HB1.out.chg (S := []) ?_ (by simp), ?_⟩
    · repeat (with_reducible first | exact Chg.refl _ _ | refine Chg.drew ?_ | refine Chg.drewN ?_ _ | refine Chg.alloc ?_ _ | refine Chg.setCell ?_ (.inr (Nat.le_refl _)) _)
    · repeat (with_reducible first | exact HC.out | refine Chg.drew ?_ | refine Chg.drewN ?_ _ | refine Chg.alloc ?_ _ | refine Chg.setCell ?_ (.inr HC.out.size) _)

set_option maxRecDepth 100000 in
set_option maxHeartbeats 1000000 in
theorem Done_any (w : World) (bb : Nat) (t : T) (v : V) (pass : Int) (ok : Bool) (now : Int) (hB : Brk w bb t v) : Calls Try.prog 29 #[.pointer (some ⟨bb, 0, none⟩), .int .i64 pass, .bool ok, .int .i64 now] w fun e w' =>
    e = .returned (.int .i64 (doneR t v pass ok now).2) ∧ Brk w' bb t (doneR t v pass ok now).1 ∧ Chg [bb] w w' := by
  have hbl := hB.b.lt
  have HB := Lib.hid hB; clear hB
  unfold doneR
  cases hn : tickB now
  · have HN := Lib.hid hn; clear hn
    simp only [Bool.false_eq_true, if_false]
    go_enter Try.func29, Try.ntmps29
    go_wp2_with fail
    refine (tick_no _ _ HN.out).mono ?_
    rintro e w' ⟨rfl, rfl⟩
    go_wp2_with fail
    go_ret
    exact ⟨rfl, HB.out, Chg.refl _ _⟩
  · have HN := Lib.hid hn; clear hn
    simp only [if_true]
    go_enter Try.func29, Try.ntmps29
    go_wp2_with fail
    refine (tick_yes _ _ HN.out).mono ?_
    rintro e w' ⟨rfl, rfl⟩
    go_wp2_with fail
    refine (finish_any _ bb w.heap.size t v true 0 ok now pass (HB.out.alloc _) (run_new w _ _ _ _ _ HN.out) (Nat.ne_of_lt hbl)).mono ?_
    rintro e w1 ⟨rt, rfl, hB1, hc1⟩
    show _
    simp only [callR, r0, if_true] at hB1 ⊢
    have HB1 := Lib.hid hB1
    have HC : Hid (Chg [bb] w w1) := ((Chg.refl [bb] w).alloc _).trans' hc1 (by simp)
    clear hB1 hc1
    go_wp2_with fail
    rw [field_code]
    go_wp2_with fail
    go_ret
    exact ⟨rfl, HB1.out, HC.out⟩
end Go.Proofs.Ythbeednmekajaaa
