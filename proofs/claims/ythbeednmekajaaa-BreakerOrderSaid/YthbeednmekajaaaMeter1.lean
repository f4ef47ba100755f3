import Derived.Test.YthbeednmekajaaaProg
import Derived.Test.YthbeednmekajaaaBase
import Derived.WalkKit
import Derived.WalkLawsBesides
import Derived.WalkSpells
import Derived.LoopTactic
import Derived.BigQuiet
import Derived.Deep.QuietTactic
import Derived.Deep.LoopGhost
import Derived.Deep.RegionHeld3
import Derived.Laws.MakeOwn
import Derived.Laws.Entries
namespace Go.Proofs.Ythbeednmekajaaa
open Go.RowKit

def tickB (n : Int) : Bool := decide (0 ≤ n ∧ n ≤ 2147483647)

theorem run_make_rowN {P : Program} (t e : TypeId) (i : TypeInfo) (z : Value) (ht : P.underlying t = some (.slice e)) (hi : P.info? e = some i) (hz : i.zero = some z)
    (kl kc : IntKind) (n c : Nat) (hnc : n ≤ c) (hbytes : i.bytes * c ≤ 281474976710656) (h63 : c ≤ 9223372036854775807) (w : World) :
    (Instr.makeSlice t (.int kl (n : Int)) (.int kc (c : Int))).run P w = .ok (.slice (some ⟨w.heap.size, 0, none⟩) n c) (w.alloc (.cells (madeCells z.cells (c * i.size)) e)) := by
  have hb : (i.bytes : Int) * (c : Int) ≤ 281474976710656 := by
    have h : ((i.bytes * c : Nat) : Int) ≤ 281474976710656 := by omega
    rwa [Int.natCast_mul] at h
  have hr := run_make (P := P) w t e i z ht hi hz kl kc n c (by omega) (by omega) hb (by omega)
  simp only [Int.toNat_natCast] at hr
  exact hr

set_option maxHeartbeats 400000 in
theorem tick_yes (n : Int) (w : World) (h : tickB n = true) : Calls Try.prog 39 #[.int .i64 n] w fun e w' => e = .returned (.bool true) ∧ w = w' := by
  simp only [tickB, decide_eq_true_eq] at h
  obtain ⟨h0, h1⟩ := h
  go_enter Try.func39, Try.ntmps39
  go_wp2
  go_ret
  exact ⟨rfl, rfl⟩

set_option maxHeartbeats 400000 in
theorem tick_no (n : Int) (w : World) (h : tickB n = false) : Calls Try.prog 39 #[.int .i64 n] w fun e w' => e = .returned (.bool false) ∧ w = w' := by
  simp only [tickB, decide_eq_false_iff_not] at h
  by_cases h0 : 0 ≤ n
  · have h1 : ¬ n ≤ 2147483647 := fun h1 => h ⟨h0, h1⟩
    clear h
    go_enter Try.func39, Try.ntmps39
    go_wp2
    go_ret
    exact ⟨rfl, rfl⟩
  · clear h
    go_enter Try.func39, Try.ntmps39
    go_wp2
    go_ret
    exact ⟨rfl, rfl⟩

theorem tick_any (n : Int) (w : World) : Calls Try.prog 39 #[.int .i64 n] w fun e w' => e = .returned (.bool (tickB n)) ∧ w = w' := by
  cases h : tickB n
  · exact tick_no n w h
  · exact tick_yes n w h

set_option maxHeartbeats 400000 in
theorem Tick_yes (n : Int) (w : World) (h : tickB n = true) : Calls Try.prog 40 #[.int .i64 n] w fun e w' => e = .returned (.bool true) ∧ w = w' := by
  simp only [tickB, decide_eq_true_eq] at h
  obtain ⟨h0, h1⟩ := h
  go_enter Try.func40, Try.ntmps40
  go_wp2
  go_ret
  exact ⟨rfl, rfl⟩

set_option maxHeartbeats 400000 in
theorem Tick_no (n : Int) (w : World) (h : tickB n = false) : Calls Try.prog 40 #[.int .i64 n] w fun e w' => e = .returned (.bool false) ∧ w = w' := by
  simp only [tickB, decide_eq_false_iff_not] at h
  by_cases h0 : 0 ≤ n
  · have h1 : ¬ n ≤ 2147483647 := fun h1 => h ⟨h0, h1⟩
    clear h
    go_enter Try.func40, Try.ntmps40
    go_wp2
    go_ret
    exact ⟨rfl, rfl⟩
  · clear h
    go_enter Try.func40, Try.ntmps40
    go_wp2
    go_ret
    exact ⟨rfl, rfl⟩

theorem Tick_any (n : Int) (w : World) : Calls Try.prog 40 #[.int .i64 n] w fun e w' => e = .returned (.bool (tickB n)) ∧ w = w' := by
  cases h : tickB n
  · exact Tick_no n w h
  · exact Tick_yes n w h

/-- May a meter be made? -/
def meterB (n s : Int) : Bool := decide (1 ≤ n ∧ n ≤ 1000 ∧ 1 ≤ s ∧ s ≤ 2147483647)

theorem bucket_info : (Try.prog.info? 99).map (fun i => (i.zero, i.size, i.bytes)) = some (some (.agg #[.int .i64 0, .int .i64 0, .int .i64 0]), 3, 24) := by kernel_rfl

set_option maxHeartbeats 400000 in
theorem newMeter_no (n s : Int) (w : World) (h : meterB n s = false) : Calls Try.prog 11 #[.int .i64 n, .int .i64 s] w fun e w' => e = .returned (.tuple #[.pointer none, .int .i64 1]) ∧ w = w' := by
  simp only [meterB, decide_eq_false_iff_not] at h
  by_cases h1 : n < 1
  · clear h
    go_enter Try.func11, Try.ntmps11
    go_wp2
    go_ret2
    exact ⟨rfl, rfl⟩
  by_cases h2 : n > 1000
  · clear h
    go_enter Try.func11, Try.ntmps11
    go_wp2
    go_ret2
    exact ⟨rfl, rfl⟩
  by_cases h3 : s < 1
  · clear h
    go_enter Try.func11, Try.ntmps11
    go_wp2
    go_ret2
    exact ⟨rfl, rfl⟩
  have h4 : tickB s = false := by simp only [tickB, decide_eq_false_iff_not]; omega
  clear h
  have H4 := Lib.hid h4; clear h4
  go_enter Try.func11, Try.ntmps11
  go_wp2_with (go_at_call 39; refine (tick_no _ _ H4.out).mono ?_; rintro e w' ⟨rfl, rfl⟩)
  go_ret2
  exact ⟨rfl, rfl⟩

set_option maxHeartbeats 400000 in
theorem newMeter_yes (n : Nat) (s : Int) (w : World) (h : meterB n s = true) :
    Calls Try.prog 11 #[.int .i64 n, .int .i64 s] w fun e w' => e = .returned (.tuple #[.pointer (some ⟨w.heap.size + 1, 0, none⟩), .int .i64 0]) ∧
      w' = (w.alloc (.cells (madeCells #[.int .i64 0, .int .i64 0, .int .i64 0] (n * 3)) 99)).alloc (.cells #[.slice (some ⟨w.heap.size, 0, none⟩) n n, .int .i64 s, .int .i64 0] 94) := by
  simp only [meterB, decide_eq_true_eq] at h
  obtain ⟨h1, h2, h3, h4⟩ := h
  have h4 : tickB s = true := by simp only [tickB, decide_eq_true_eq]; omega
  have H4 := Lib.hid h4; clear h4
  obtain ⟨i0, hi, hz0, hz1, hz2⟩ := info_parts bucket_info
  have hmk := fun W => run_make_rowN (P := Try.prog) 92 99 i0 _ Try.underlying92 hi hz0 .i64 .i64 n n (Nat.le_refl _) (by rw [hz2]; omega) (by omega) W
  rw [hz1] at hmk
  clear hi hz0 hz1 hz2
  go_enter Try.func11, Try.ntmps11
  go_wp2_with (go_at_call 39; refine (tick_yes _ _ H4.out).mono ?_; rintro e w' ⟨rfl, rfl⟩)
  go_ret2
  exact ⟨rfl, rfl⟩
end Go.Proofs.Ythbeednmekajaaa
