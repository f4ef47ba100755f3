import Derived.Test.YthbeednmekajaaaBrk8
import Derived.Test.YthbeednmekajaaaMeter7
namespace Go.Proofs.Ythbeednmekajaaa
open Go.RowKit

theorem Allow_nil (now : Int) (w : World) : Calls Try.prog 28 #[.pointer none, .int .i64 now] w fun e w' => e = .returned (.tuple #[.int .i64 0, .int .i64 2]) ∧ w = w' := by
  go_enter Try.func28, Try.ntmps28
  go_wp2_with fail
  refine bodyPost_ret (v := .tuple #[.int .i64 0, .int .i64 2]) (by simp only [results, Try.results28]; go_simp) rfl ?_
  exact ⟨rfl, rfl⟩

theorem Done_nil (pass : Int) (ok : Bool) (now : Int) (w : World) : Calls Try.prog 29 #[.pointer none, .int .i64 pass, .bool ok, .int .i64 now] w fun e w' => e = .returned (.int .i64 2) ∧ w = w' := by
  go_enter Try.func29, Try.ntmps29
  go_wp2_with fail
  go_ret
  exact ⟨rfl, rfl⟩

theorem Add_nil (now : Int) (ok : Bool) (w : World) : Calls Try.prog 14 #[.pointer none, .int .i64 now, .bool ok] w fun e w' => e = .returned (.int .i64 2) ∧ w = w' := by
  go_enter Try.func14, Try.ntmps14
  go_wp2_with fail
  go_ret
  exact ⟨rfl, rfl⟩

theorem Rate_nil (now : Int) (w : World) : Calls Try.prog 16 #[.pointer none, .int .i64 now] w fun e w' => e = .returned (.float .f64 9221120237041090561) ∧ w = w' := by
  go_enter Try.func16, Try.ntmps16
  go_wp2_with (go_at_call 34; refine (nan_any _).mono ?_; rintro e w' ⟨rfl, rfl⟩)
  go_ret
  exact ⟨rfl, rfl⟩

theorem copysign_neg (w : World) : Calls Try.prog 35 #[.float .f64 0, .float .f64 13830554455654793216] w fun e w' => e = .returned (.float .f64 9223372036854775808) ∧ w = w' := by
  have h1 := run_bits 0 w
  have h2 := run_bits 13830554455654793216 w
  have h3 := run_frombits 9223372036854775808 w
  have b1 : bits BinOp.andNot IntKind.u64 0 9223372036854775808 = 0 := by decide +kernel
  have b2 : bits BinOp.and IntKind.u64 13830554455654793216 9223372036854775808 = 9223372036854775808 := by decide +kernel
  have b3 : bits BinOp.or IntKind.u64 0 9223372036854775808 = 9223372036854775808 := by decide +kernel
  go_enter Try.func35, Try.ntmps35
  go_wp2_with fail
  go_ret
  exact ⟨rfl, rfl⟩

set_option maxRecDepth 100000 in
set_option maxHeartbeats 1000000 in
theorem names_any (w : World) : Calls Try.prog 7 #[] w fun e w' => e = .returned (.bool true) ∧ Chg [] w w' := by
  have g1 : geqB 9221120237041090561 0 = false := by decide +kernel
  have g2 : geqB 0 9221120237041090561 = false := by decide +kernel
  have g3 : geqB 9221120237041090561 9221120237041090561 = false := by decide +kernel
  have g4 : geqB 4602678819172646912 4602678819172646912 = true := by decide +kernel
  have g5 : geqB 0 9223372036854775808 = true := by decide +kernel
  have g6 : geqB 9223372036854775808 0 = true := by decide +kernel
  have g7 : (FloatKind.f64.format.order 9221120237041090561 9221120237041090561 == some .eq) = false := by decide +kernel
  go_enter Try.func7, Try.ntmps7
  go_wp2_with fail
  refine (Allow_nil _ _).mono ?_
  rintro e w' ⟨rfl, rfl⟩
  go_wp2_with fail
  refine (Rate_nil _ _).mono ?_
  rintro e w' ⟨rfl, rfl⟩
  go_wp2_with fail
  refine (Done_nil _ _ _ _).mono ?_
  rintro e w' ⟨rfl, rfl⟩
  go_wp2_with fail
  refine (view_nil _).mono ?_
  rintro e w1 ⟨rfl, hc⟩
  have HC := Lib.hid hc; clear hc
  simp only [av, v0]
  go_wp2_with fail
  refine (Add_nil _ _ _).mono ?_
  rintro e w' ⟨rfl, rfl⟩
  go_wp2_with fail
  refine (nan_any _).mono ?_
  rintro e w' ⟨rfl, rfl⟩
  go_wp2_with fail
  refine (trips_any _ _ _).mono ?_
  rw [g1]
  rintro e w' ⟨rfl, rfl⟩
  go_wp2_with fail
  refine (trips_any _ _ _).mono ?_
  rw [g2]
  rintro e w' ⟨rfl, rfl⟩
  go_wp2_with fail
  refine (trips_any _ _ _).mono ?_
  rw [g3]
  rintro e w' ⟨rfl, rfl⟩
  go_wp2_with fail
  refine (trips_any _ _ _).mono ?_
  rw [g4]
  rintro e w' ⟨rfl, rfl⟩
  go_wp2_with fail
  refine (copysign_neg _).mono ?_
  rintro e w' ⟨rfl, rfl⟩
  go_wp2_with fail
  refine (trips_any _ _ _).mono ?_
  rw [g5]
  rintro e w' ⟨rfl, rfl⟩
  go_wp2_with fail
  refine (copysign_neg _).mono ?_
  rintro e w' ⟨rfl, rfl⟩
  go_wp2_with fail
  refine (trips_any _ _ _).mono ?_
  rw [g6]
  rintro e w' ⟨rfl, rfl⟩
  go_wp2_with fail
  go_ret
  exact ⟨rfl, HC.out⟩
end Go.Proofs.Ythbeednmekajaaa
