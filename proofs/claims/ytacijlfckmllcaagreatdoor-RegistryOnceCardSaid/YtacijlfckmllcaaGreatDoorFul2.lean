/-
  The set of a kind's faces, as the program tells it of a value of the kind's type. (Printed by wip/tools/gen_ful1.py.)
-/
import Derived.Test.YtacijlfckmllcaaGreatDoorFul1
namespace Go.Proofs.YtacijlfckmllcaaGreatDoor
open Go.RowKit

set_option maxRecDepth 100000 in
theorem held1 (v : Value) (w : World) : Calls Tryz.prog 29 #[.iface 123 v] w fun e w' => e = .returned (.int .u32 532486) ∧ w = w' := by
  go_enter Tryz.func29, Tryz.ntmps29
  go_wp2_with fail
  refine (isa1 (.iface 123 v) true (fun w => run_typeAssert_hasB Tryz.underlying70 (by kernel_rfl) v 20 w) _).mono ?_
  rintro e w' ⟨rfl, rfl⟩
  go_wp2_with fail
  refine (isa2 (.iface 123 v) true (fun w => run_typeAssert_hasB Tryz.underlying90 (by kernel_rfl) v 20 w) _).mono ?_
  rintro e w' ⟨rfl, rfl⟩
  go_wp2_with fail
  refine (isa3 (.iface 123 v) false (fun w => run_typeAssert_lacksB Tryz.underlying92 (by kernel_rfl) (by kernel_rfl) v 20 w) _).mono ?_
  rintro e w' ⟨rfl, rfl⟩
  go_wp2_with fail
  refine (isa4 (.iface 123 v) false (fun w => run_typeAssert_lacksB Tryz.underlying94 (by kernel_rfl) (by kernel_rfl) v 20 w) _).mono ?_
  rintro e w' ⟨rfl, rfl⟩
  go_wp2_with fail
  refine (isa5 (.iface 123 v) false (fun w => run_typeAssert_lacksB Tryz.underlying96 (by kernel_rfl) (by kernel_rfl) v 20 w) _).mono ?_
  rintro e w' ⟨rfl, rfl⟩
  go_wp2_with fail
  refine (isa6 (.iface 123 v) false (fun w => run_typeAssert_lacksB Tryz.underlying98 (by kernel_rfl) (by kernel_rfl) v 20 w) _).mono ?_
  rintro e w' ⟨rfl, rfl⟩
  go_wp2_with fail
  refine (isa7 (.iface 123 v) false (fun w => run_typeAssert_lacksB Tryz.underlying100 (by kernel_rfl) (by kernel_rfl) v 20 w) _).mono ?_
  rintro e w' ⟨rfl, rfl⟩
  go_wp2_with fail
  refine (isa8 (.iface 123 v) false (fun w => run_typeAssert_lacksB Tryz.underlying102 (by kernel_rfl) (by kernel_rfl) v 20 w) _).mono ?_
  rintro e w' ⟨rfl, rfl⟩
  go_wp2_with fail
  refine (isa9 (.iface 123 v) false (fun w => run_typeAssert_lacksB Tryz.underlying104 (by kernel_rfl) (by kernel_rfl) v 20 w) _).mono ?_
  rintro e w' ⟨rfl, rfl⟩
  go_wp2_with fail
  refine (isa10 (.iface 123 v) false (fun w => run_typeAssert_lacksB Tryz.underlying106 (by kernel_rfl) (by kernel_rfl) v 20 w) _).mono ?_
  rintro e w' ⟨rfl, rfl⟩
  go_wp2_with fail
  refine (isa11 (.iface 123 v) false (fun w => run_typeAssert_lacksB Tryz.underlying108 (by kernel_rfl) (by kernel_rfl) v 20 w) _).mono ?_
  rintro e w' ⟨rfl, rfl⟩
  go_wp2_with fail
  refine (isa12 (.iface 123 v) false (fun w => run_typeAssert_lacksB Tryz.underlying110 (by kernel_rfl) (by kernel_rfl) v 20 w) _).mono ?_
  rintro e w' ⟨rfl, rfl⟩
  go_wp2_with fail
  refine (isa13 (.iface 123 v) true (fun w => run_typeAssert_hasB Tryz.underlying112 (by kernel_rfl) v 20 w) _).mono ?_
  rintro e w' ⟨rfl, rfl⟩
  go_wp2_with fail
  refine (isa14 (.iface 123 v) false (fun w => run_typeAssert_lacksB Tryz.underlying114 (by kernel_rfl) (by kernel_rfl) v 20 w) _).mono ?_
  rintro e w' ⟨rfl, rfl⟩
  go_wp2_with fail
  refine (isa15 (.iface 123 v) false (fun w => run_typeAssert_lacksB Tryz.underlying116 (by kernel_rfl) (by kernel_rfl) v 20 w) _).mono ?_
  rintro e w' ⟨rfl, rfl⟩
  go_wp2_with fail
  refine (isa16 (.iface 123 v) false (fun w => run_typeAssert_lacksB Tryz.underlying118 (by kernel_rfl) (by kernel_rfl) v 20 w) _).mono ?_
  rintro e w' ⟨rfl, rfl⟩
  go_wp2_with fail
  refine (isa17 (.iface 123 v) false (fun w => run_typeAssert_lacksB Tryz.underlying120 (by kernel_rfl) (by kernel_rfl) v 20 w) _).mono ?_
  rintro e w' ⟨rfl, rfl⟩
  go_wp2_with fail
  refine (isa18 (.iface 123 v) false (fun w => run_typeAssert_lacksB Tryz.underlying122 (by kernel_rfl) (by kernel_rfl) v 20 w) _).mono ?_
  rintro e w' ⟨rfl, rfl⟩
  go_wp2_with fail
  refine (isa19 (.iface 123 v) true (fun w => run_typeAssert_hasB Tryz.underlying20 (by kernel_rfl) v 20 w) _).mono ?_
  rintro e w' ⟨rfl, rfl⟩
  go_wp2_with fail
  go_ret
  exact ⟨rfl, rfl⟩
set_option maxRecDepth 100000 in
theorem held2 (v : Value) (w : World) : Calls Tryz.prog 29 #[.iface 124 v] w fun e w' => e = .returned (.int .u32 532482) ∧ w = w' := by
  go_enter Tryz.func29, Tryz.ntmps29
  go_wp2_with fail
  refine (isa1 (.iface 124 v) true (fun w => run_typeAssert_hasB Tryz.underlying70 (by kernel_rfl) v 20 w) _).mono ?_
  rintro e w' ⟨rfl, rfl⟩
  go_wp2_with fail
  refine (isa2 (.iface 124 v) false (fun w => run_typeAssert_lacksB Tryz.underlying90 (by kernel_rfl) (by kernel_rfl) v 20 w) _).mono ?_
  rintro e w' ⟨rfl, rfl⟩
  go_wp2_with fail
  refine (isa3 (.iface 124 v) false (fun w => run_typeAssert_lacksB Tryz.underlying92 (by kernel_rfl) (by kernel_rfl) v 20 w) _).mono ?_
  rintro e w' ⟨rfl, rfl⟩
  go_wp2_with fail
  refine (isa4 (.iface 124 v) false (fun w => run_typeAssert_lacksB Tryz.underlying94 (by kernel_rfl) (by kernel_rfl) v 20 w) _).mono ?_
  rintro e w' ⟨rfl, rfl⟩
  go_wp2_with fail
  refine (isa5 (.iface 124 v) false (fun w => run_typeAssert_lacksB Tryz.underlying96 (by kernel_rfl) (by kernel_rfl) v 20 w) _).mono ?_
  rintro e w' ⟨rfl, rfl⟩
  go_wp2_with fail
  refine (isa6 (.iface 124 v) false (fun w => run_typeAssert_lacksB Tryz.underlying98 (by kernel_rfl) (by kernel_rfl) v 20 w) _).mono ?_
  rintro e w' ⟨rfl, rfl⟩
  go_wp2_with fail
  refine (isa7 (.iface 124 v) false (fun w => run_typeAssert_lacksB Tryz.underlying100 (by kernel_rfl) (by kernel_rfl) v 20 w) _).mono ?_
  rintro e w' ⟨rfl, rfl⟩
  go_wp2_with fail
  refine (isa8 (.iface 124 v) false (fun w => run_typeAssert_lacksB Tryz.underlying102 (by kernel_rfl) (by kernel_rfl) v 20 w) _).mono ?_
  rintro e w' ⟨rfl, rfl⟩
  go_wp2_with fail
  refine (isa9 (.iface 124 v) false (fun w => run_typeAssert_lacksB Tryz.underlying104 (by kernel_rfl) (by kernel_rfl) v 20 w) _).mono ?_
  rintro e w' ⟨rfl, rfl⟩
  go_wp2_with fail
  refine (isa10 (.iface 124 v) false (fun w => run_typeAssert_lacksB Tryz.underlying106 (by kernel_rfl) (by kernel_rfl) v 20 w) _).mono ?_
  rintro e w' ⟨rfl, rfl⟩
  go_wp2_with fail
  refine (isa11 (.iface 124 v) false (fun w => run_typeAssert_lacksB Tryz.underlying108 (by kernel_rfl) (by kernel_rfl) v 20 w) _).mono ?_
  rintro e w' ⟨rfl, rfl⟩
  go_wp2_with fail
  refine (isa12 (.iface 124 v) false (fun w => run_typeAssert_lacksB Tryz.underlying110 (by kernel_rfl) (by kernel_rfl) v 20 w) _).mono ?_
  rintro e w' ⟨rfl, rfl⟩
  go_wp2_with fail
  refine (isa13 (.iface 124 v) true (fun w => run_typeAssert_hasB Tryz.underlying112 (by kernel_rfl) v 20 w) _).mono ?_
  rintro e w' ⟨rfl, rfl⟩
  go_wp2_with fail
  refine (isa14 (.iface 124 v) false (fun w => run_typeAssert_lacksB Tryz.underlying114 (by kernel_rfl) (by kernel_rfl) v 20 w) _).mono ?_
  rintro e w' ⟨rfl, rfl⟩
  go_wp2_with fail
  refine (isa15 (.iface 124 v) false (fun w => run_typeAssert_lacksB Tryz.underlying116 (by kernel_rfl) (by kernel_rfl) v 20 w) _).mono ?_
  rintro e w' ⟨rfl, rfl⟩
  go_wp2_with fail
  refine (isa16 (.iface 124 v) false (fun w => run_typeAssert_lacksB Tryz.underlying118 (by kernel_rfl) (by kernel_rfl) v 20 w) _).mono ?_
  rintro e w' ⟨rfl, rfl⟩
  go_wp2_with fail
  refine (isa17 (.iface 124 v) false (fun w => run_typeAssert_lacksB Tryz.underlying120 (by kernel_rfl) (by kernel_rfl) v 20 w) _).mono ?_
  rintro e w' ⟨rfl, rfl⟩
  go_wp2_with fail
  refine (isa18 (.iface 124 v) false (fun w => run_typeAssert_lacksB Tryz.underlying122 (by kernel_rfl) (by kernel_rfl) v 20 w) _).mono ?_
  rintro e w' ⟨rfl, rfl⟩
  go_wp2_with fail
  refine (isa19 (.iface 124 v) true (fun w => run_typeAssert_hasB Tryz.underlying20 (by kernel_rfl) v 20 w) _).mono ?_
  rintro e w' ⟨rfl, rfl⟩
  go_wp2_with fail
  go_ret
  exact ⟨rfl, rfl⟩
set_option maxRecDepth 100000 in
theorem held3 (v : Value) (w : World) : Calls Tryz.prog 29 #[.iface 125 v] w fun e w' => e = .returned (.int .u32 532498) ∧ w = w' := by
  go_enter Tryz.func29, Tryz.ntmps29
  go_wp2_with fail
  refine (isa1 (.iface 125 v) true (fun w => run_typeAssert_hasB Tryz.underlying70 (by kernel_rfl) v 20 w) _).mono ?_
  rintro e w' ⟨rfl, rfl⟩
  go_wp2_with fail
  refine (isa2 (.iface 125 v) false (fun w => run_typeAssert_lacksB Tryz.underlying90 (by kernel_rfl) (by kernel_rfl) v 20 w) _).mono ?_
  rintro e w' ⟨rfl, rfl⟩
  go_wp2_with fail
  refine (isa3 (.iface 125 v) false (fun w => run_typeAssert_lacksB Tryz.underlying92 (by kernel_rfl) (by kernel_rfl) v 20 w) _).mono ?_
  rintro e w' ⟨rfl, rfl⟩
  go_wp2_with fail
  refine (isa4 (.iface 125 v) true (fun w => run_typeAssert_hasB Tryz.underlying94 (by kernel_rfl) v 20 w) _).mono ?_
  rintro e w' ⟨rfl, rfl⟩
  go_wp2_with fail
  refine (isa5 (.iface 125 v) false (fun w => run_typeAssert_lacksB Tryz.underlying96 (by kernel_rfl) (by kernel_rfl) v 20 w) _).mono ?_
  rintro e w' ⟨rfl, rfl⟩
  go_wp2_with fail
  refine (isa6 (.iface 125 v) false (fun w => run_typeAssert_lacksB Tryz.underlying98 (by kernel_rfl) (by kernel_rfl) v 20 w) _).mono ?_
  rintro e w' ⟨rfl, rfl⟩
  go_wp2_with fail
  refine (isa7 (.iface 125 v) false (fun w => run_typeAssert_lacksB Tryz.underlying100 (by kernel_rfl) (by kernel_rfl) v 20 w) _).mono ?_
  rintro e w' ⟨rfl, rfl⟩
  go_wp2_with fail
  refine (isa8 (.iface 125 v) false (fun w => run_typeAssert_lacksB Tryz.underlying102 (by kernel_rfl) (by kernel_rfl) v 20 w) _).mono ?_
  rintro e w' ⟨rfl, rfl⟩
  go_wp2_with fail
  refine (isa9 (.iface 125 v) false (fun w => run_typeAssert_lacksB Tryz.underlying104 (by kernel_rfl) (by kernel_rfl) v 20 w) _).mono ?_
  rintro e w' ⟨rfl, rfl⟩
  go_wp2_with fail
  refine (isa10 (.iface 125 v) false (fun w => run_typeAssert_lacksB Tryz.underlying106 (by kernel_rfl) (by kernel_rfl) v 20 w) _).mono ?_
  rintro e w' ⟨rfl, rfl⟩
  go_wp2_with fail
  refine (isa11 (.iface 125 v) false (fun w => run_typeAssert_lacksB Tryz.underlying108 (by kernel_rfl) (by kernel_rfl) v 20 w) _).mono ?_
  rintro e w' ⟨rfl, rfl⟩
  go_wp2_with fail
  refine (isa12 (.iface 125 v) false (fun w => run_typeAssert_lacksB Tryz.underlying110 (by kernel_rfl) (by kernel_rfl) v 20 w) _).mono ?_
  rintro e w' ⟨rfl, rfl⟩
  go_wp2_with fail
  refine (isa13 (.iface 125 v) true (fun w => run_typeAssert_hasB Tryz.underlying112 (by kernel_rfl) v 20 w) _).mono ?_
  rintro e w' ⟨rfl, rfl⟩
  go_wp2_with fail
  refine (isa14 (.iface 125 v) false (fun w => run_typeAssert_lacksB Tryz.underlying114 (by kernel_rfl) (by kernel_rfl) v 20 w) _).mono ?_
  rintro e w' ⟨rfl, rfl⟩
  go_wp2_with fail
  refine (isa15 (.iface 125 v) false (fun w => run_typeAssert_lacksB Tryz.underlying116 (by kernel_rfl) (by kernel_rfl) v 20 w) _).mono ?_
  rintro e w' ⟨rfl, rfl⟩
  go_wp2_with fail
  refine (isa16 (.iface 125 v) false (fun w => run_typeAssert_lacksB Tryz.underlying118 (by kernel_rfl) (by kernel_rfl) v 20 w) _).mono ?_
  rintro e w' ⟨rfl, rfl⟩
  go_wp2_with fail
  refine (isa17 (.iface 125 v) false (fun w => run_typeAssert_lacksB Tryz.underlying120 (by kernel_rfl) (by kernel_rfl) v 20 w) _).mono ?_
  rintro e w' ⟨rfl, rfl⟩
  go_wp2_with fail
  refine (isa18 (.iface 125 v) false (fun w => run_typeAssert_lacksB Tryz.underlying122 (by kernel_rfl) (by kernel_rfl) v 20 w) _).mono ?_
  rintro e w' ⟨rfl, rfl⟩
  go_wp2_with fail
  refine (isa19 (.iface 125 v) true (fun w => run_typeAssert_hasB Tryz.underlying20 (by kernel_rfl) v 20 w) _).mono ?_
  rintro e w' ⟨rfl, rfl⟩
  go_wp2_with fail
  go_ret
  exact ⟨rfl, rfl⟩
set_option maxRecDepth 100000 in
theorem held4 (v : Value) (w : World) : Calls Tryz.prog 29 #[.iface 127 v] w fun e w' => e = .returned (.int .u32 524322) ∧ w = w' := by
  go_enter Tryz.func29, Tryz.ntmps29
  go_wp2_with fail
  refine (isa1 (.iface 127 v) true (fun w => run_typeAssert_hasB Tryz.underlying70 (by kernel_rfl) v 20 w) _).mono ?_
  rintro e w' ⟨rfl, rfl⟩
  go_wp2_with fail
  refine (isa2 (.iface 127 v) false (fun w => run_typeAssert_lacksB Tryz.underlying90 (by kernel_rfl) (by kernel_rfl) v 20 w) _).mono ?_
  rintro e w' ⟨rfl, rfl⟩
  go_wp2_with fail
  refine (isa3 (.iface 127 v) false (fun w => run_typeAssert_lacksB Tryz.underlying92 (by kernel_rfl) (by kernel_rfl) v 20 w) _).mono ?_
  rintro e w' ⟨rfl, rfl⟩
  go_wp2_with fail
  refine (isa4 (.iface 127 v) false (fun w => run_typeAssert_lacksB Tryz.underlying94 (by kernel_rfl) (by kernel_rfl) v 20 w) _).mono ?_
  rintro e w' ⟨rfl, rfl⟩
  go_wp2_with fail
  refine (isa5 (.iface 127 v) true (fun w => run_typeAssert_hasB Tryz.underlying96 (by kernel_rfl) v 20 w) _).mono ?_
  rintro e w' ⟨rfl, rfl⟩
  go_wp2_with fail
  refine (isa6 (.iface 127 v) false (fun w => run_typeAssert_lacksB Tryz.underlying98 (by kernel_rfl) (by kernel_rfl) v 20 w) _).mono ?_
  rintro e w' ⟨rfl, rfl⟩
  go_wp2_with fail
  refine (isa7 (.iface 127 v) false (fun w => run_typeAssert_lacksB Tryz.underlying100 (by kernel_rfl) (by kernel_rfl) v 20 w) _).mono ?_
  rintro e w' ⟨rfl, rfl⟩
  go_wp2_with fail
  refine (isa8 (.iface 127 v) false (fun w => run_typeAssert_lacksB Tryz.underlying102 (by kernel_rfl) (by kernel_rfl) v 20 w) _).mono ?_
  rintro e w' ⟨rfl, rfl⟩
  go_wp2_with fail
  refine (isa9 (.iface 127 v) false (fun w => run_typeAssert_lacksB Tryz.underlying104 (by kernel_rfl) (by kernel_rfl) v 20 w) _).mono ?_
  rintro e w' ⟨rfl, rfl⟩
  go_wp2_with fail
  refine (isa10 (.iface 127 v) false (fun w => run_typeAssert_lacksB Tryz.underlying106 (by kernel_rfl) (by kernel_rfl) v 20 w) _).mono ?_
  rintro e w' ⟨rfl, rfl⟩
  go_wp2_with fail
  refine (isa11 (.iface 127 v) false (fun w => run_typeAssert_lacksB Tryz.underlying108 (by kernel_rfl) (by kernel_rfl) v 20 w) _).mono ?_
  rintro e w' ⟨rfl, rfl⟩
  go_wp2_with fail
  refine (isa12 (.iface 127 v) false (fun w => run_typeAssert_lacksB Tryz.underlying110 (by kernel_rfl) (by kernel_rfl) v 20 w) _).mono ?_
  rintro e w' ⟨rfl, rfl⟩
  go_wp2_with fail
  refine (isa13 (.iface 127 v) false (fun w => run_typeAssert_lacksB Tryz.underlying112 (by kernel_rfl) (by kernel_rfl) v 20 w) _).mono ?_
  rintro e w' ⟨rfl, rfl⟩
  go_wp2_with fail
  refine (isa14 (.iface 127 v) false (fun w => run_typeAssert_lacksB Tryz.underlying114 (by kernel_rfl) (by kernel_rfl) v 20 w) _).mono ?_
  rintro e w' ⟨rfl, rfl⟩
  go_wp2_with fail
  refine (isa15 (.iface 127 v) false (fun w => run_typeAssert_lacksB Tryz.underlying116 (by kernel_rfl) (by kernel_rfl) v 20 w) _).mono ?_
  rintro e w' ⟨rfl, rfl⟩
  go_wp2_with fail
  refine (isa16 (.iface 127 v) false (fun w => run_typeAssert_lacksB Tryz.underlying118 (by kernel_rfl) (by kernel_rfl) v 20 w) _).mono ?_
  rintro e w' ⟨rfl, rfl⟩
  go_wp2_with fail
  refine (isa17 (.iface 127 v) false (fun w => run_typeAssert_lacksB Tryz.underlying120 (by kernel_rfl) (by kernel_rfl) v 20 w) _).mono ?_
  rintro e w' ⟨rfl, rfl⟩
  go_wp2_with fail
  refine (isa18 (.iface 127 v) false (fun w => run_typeAssert_lacksB Tryz.underlying122 (by kernel_rfl) (by kernel_rfl) v 20 w) _).mono ?_
  rintro e w' ⟨rfl, rfl⟩
  go_wp2_with fail
  refine (isa19 (.iface 127 v) true (fun w => run_typeAssert_hasB Tryz.underlying20 (by kernel_rfl) v 20 w) _).mono ?_
  rintro e w' ⟨rfl, rfl⟩
  go_wp2_with fail
  go_ret
  exact ⟨rfl, rfl⟩
set_option maxRecDepth 100000 in
theorem held5 (v : Value) (w : World) : Calls Tryz.prog 29 #[.iface 129 v] w fun e w' => e = .returned (.int .u32 524290) ∧ w = w' := by
  go_enter Tryz.func29, Tryz.ntmps29
  go_wp2_with fail
  refine (isa1 (.iface 129 v) true (fun w => run_typeAssert_hasB Tryz.underlying70 (by kernel_rfl) v 20 w) _).mono ?_
  rintro e w' ⟨rfl, rfl⟩
  go_wp2_with fail
  refine (isa2 (.iface 129 v) false (fun w => run_typeAssert_lacksB Tryz.underlying90 (by kernel_rfl) (by kernel_rfl) v 20 w) _).mono ?_
  rintro e w' ⟨rfl, rfl⟩
  go_wp2_with fail
  refine (isa3 (.iface 129 v) false (fun w => run_typeAssert_lacksB Tryz.underlying92 (by kernel_rfl) (by kernel_rfl) v 20 w) _).mono ?_
  rintro e w' ⟨rfl, rfl⟩
  go_wp2_with fail
  refine (isa4 (.iface 129 v) false (fun w => run_typeAssert_lacksB Tryz.underlying94 (by kernel_rfl) (by kernel_rfl) v 20 w) _).mono ?_
  rintro e w' ⟨rfl, rfl⟩
  go_wp2_with fail
  refine (isa5 (.iface 129 v) false (fun w => run_typeAssert_lacksB Tryz.underlying96 (by kernel_rfl) (by kernel_rfl) v 20 w) _).mono ?_
  rintro e w' ⟨rfl, rfl⟩
  go_wp2_with fail
  refine (isa6 (.iface 129 v) false (fun w => run_typeAssert_lacksB Tryz.underlying98 (by kernel_rfl) (by kernel_rfl) v 20 w) _).mono ?_
  rintro e w' ⟨rfl, rfl⟩
  go_wp2_with fail
  refine (isa7 (.iface 129 v) false (fun w => run_typeAssert_lacksB Tryz.underlying100 (by kernel_rfl) (by kernel_rfl) v 20 w) _).mono ?_
  rintro e w' ⟨rfl, rfl⟩
  go_wp2_with fail
  refine (isa8 (.iface 129 v) false (fun w => run_typeAssert_lacksB Tryz.underlying102 (by kernel_rfl) (by kernel_rfl) v 20 w) _).mono ?_
  rintro e w' ⟨rfl, rfl⟩
  go_wp2_with fail
  refine (isa9 (.iface 129 v) false (fun w => run_typeAssert_lacksB Tryz.underlying104 (by kernel_rfl) (by kernel_rfl) v 20 w) _).mono ?_
  rintro e w' ⟨rfl, rfl⟩
  go_wp2_with fail
  refine (isa10 (.iface 129 v) false (fun w => run_typeAssert_lacksB Tryz.underlying106 (by kernel_rfl) (by kernel_rfl) v 20 w) _).mono ?_
  rintro e w' ⟨rfl, rfl⟩
  go_wp2_with fail
  refine (isa11 (.iface 129 v) false (fun w => run_typeAssert_lacksB Tryz.underlying108 (by kernel_rfl) (by kernel_rfl) v 20 w) _).mono ?_
  rintro e w' ⟨rfl, rfl⟩
  go_wp2_with fail
  refine (isa12 (.iface 129 v) false (fun w => run_typeAssert_lacksB Tryz.underlying110 (by kernel_rfl) (by kernel_rfl) v 20 w) _).mono ?_
  rintro e w' ⟨rfl, rfl⟩
  go_wp2_with fail
  refine (isa13 (.iface 129 v) false (fun w => run_typeAssert_lacksB Tryz.underlying112 (by kernel_rfl) (by kernel_rfl) v 20 w) _).mono ?_
  rintro e w' ⟨rfl, rfl⟩
  go_wp2_with fail
  refine (isa14 (.iface 129 v) false (fun w => run_typeAssert_lacksB Tryz.underlying114 (by kernel_rfl) (by kernel_rfl) v 20 w) _).mono ?_
  rintro e w' ⟨rfl, rfl⟩
  go_wp2_with fail
  refine (isa15 (.iface 129 v) false (fun w => run_typeAssert_lacksB Tryz.underlying116 (by kernel_rfl) (by kernel_rfl) v 20 w) _).mono ?_
  rintro e w' ⟨rfl, rfl⟩
  go_wp2_with fail
  refine (isa16 (.iface 129 v) false (fun w => run_typeAssert_lacksB Tryz.underlying118 (by kernel_rfl) (by kernel_rfl) v 20 w) _).mono ?_
  rintro e w' ⟨rfl, rfl⟩
  go_wp2_with fail
  refine (isa17 (.iface 129 v) false (fun w => run_typeAssert_lacksB Tryz.underlying120 (by kernel_rfl) (by kernel_rfl) v 20 w) _).mono ?_
  rintro e w' ⟨rfl, rfl⟩
  go_wp2_with fail
  refine (isa18 (.iface 129 v) false (fun w => run_typeAssert_lacksB Tryz.underlying122 (by kernel_rfl) (by kernel_rfl) v 20 w) _).mono ?_
  rintro e w' ⟨rfl, rfl⟩
  go_wp2_with fail
  refine (isa19 (.iface 129 v) true (fun w => run_typeAssert_hasB Tryz.underlying20 (by kernel_rfl) v 20 w) _).mono ?_
  rintro e w' ⟨rfl, rfl⟩
  go_wp2_with fail
  go_ret
  exact ⟨rfl, rfl⟩
set_option maxRecDepth 100000 in
theorem held6 (v : Value) (w : World) : Calls Tryz.prog 29 #[.iface 132 v] w fun e w' => e = .returned (.int .u32 540674) ∧ w = w' := by
  go_enter Tryz.func29, Tryz.ntmps29
  go_wp2_with fail
  refine (isa1 (.iface 132 v) true (fun w => run_typeAssert_hasB Tryz.underlying70 (by kernel_rfl) v 20 w) _).mono ?_
  rintro e w' ⟨rfl, rfl⟩
  go_wp2_with fail
  refine (isa2 (.iface 132 v) false (fun w => run_typeAssert_lacksB Tryz.underlying90 (by kernel_rfl) (by kernel_rfl) v 20 w) _).mono ?_
  rintro e w' ⟨rfl, rfl⟩
  go_wp2_with fail
  refine (isa3 (.iface 132 v) false (fun w => run_typeAssert_lacksB Tryz.underlying92 (by kernel_rfl) (by kernel_rfl) v 20 w) _).mono ?_
  rintro e w' ⟨rfl, rfl⟩
  go_wp2_with fail
  refine (isa4 (.iface 132 v) false (fun w => run_typeAssert_lacksB Tryz.underlying94 (by kernel_rfl) (by kernel_rfl) v 20 w) _).mono ?_
  rintro e w' ⟨rfl, rfl⟩
  go_wp2_with fail
  refine (isa5 (.iface 132 v) false (fun w => run_typeAssert_lacksB Tryz.underlying96 (by kernel_rfl) (by kernel_rfl) v 20 w) _).mono ?_
  rintro e w' ⟨rfl, rfl⟩
  go_wp2_with fail
  refine (isa6 (.iface 132 v) false (fun w => run_typeAssert_lacksB Tryz.underlying98 (by kernel_rfl) (by kernel_rfl) v 20 w) _).mono ?_
  rintro e w' ⟨rfl, rfl⟩
  go_wp2_with fail
  refine (isa7 (.iface 132 v) false (fun w => run_typeAssert_lacksB Tryz.underlying100 (by kernel_rfl) (by kernel_rfl) v 20 w) _).mono ?_
  rintro e w' ⟨rfl, rfl⟩
  go_wp2_with fail
  refine (isa8 (.iface 132 v) false (fun w => run_typeAssert_lacksB Tryz.underlying102 (by kernel_rfl) (by kernel_rfl) v 20 w) _).mono ?_
  rintro e w' ⟨rfl, rfl⟩
  go_wp2_with fail
  refine (isa9 (.iface 132 v) false (fun w => run_typeAssert_lacksB Tryz.underlying104 (by kernel_rfl) (by kernel_rfl) v 20 w) _).mono ?_
  rintro e w' ⟨rfl, rfl⟩
  go_wp2_with fail
  refine (isa10 (.iface 132 v) false (fun w => run_typeAssert_lacksB Tryz.underlying106 (by kernel_rfl) (by kernel_rfl) v 20 w) _).mono ?_
  rintro e w' ⟨rfl, rfl⟩
  go_wp2_with fail
  refine (isa11 (.iface 132 v) false (fun w => run_typeAssert_lacksB Tryz.underlying108 (by kernel_rfl) (by kernel_rfl) v 20 w) _).mono ?_
  rintro e w' ⟨rfl, rfl⟩
  go_wp2_with fail
  refine (isa12 (.iface 132 v) false (fun w => run_typeAssert_lacksB Tryz.underlying110 (by kernel_rfl) (by kernel_rfl) v 20 w) _).mono ?_
  rintro e w' ⟨rfl, rfl⟩
  go_wp2_with fail
  refine (isa13 (.iface 132 v) false (fun w => run_typeAssert_lacksB Tryz.underlying112 (by kernel_rfl) (by kernel_rfl) v 20 w) _).mono ?_
  rintro e w' ⟨rfl, rfl⟩
  go_wp2_with fail
  refine (isa14 (.iface 132 v) true (fun w => run_typeAssert_hasB Tryz.underlying114 (by kernel_rfl) v 20 w) _).mono ?_
  rintro e w' ⟨rfl, rfl⟩
  go_wp2_with fail
  refine (isa15 (.iface 132 v) false (fun w => run_typeAssert_lacksB Tryz.underlying116 (by kernel_rfl) (by kernel_rfl) v 20 w) _).mono ?_
  rintro e w' ⟨rfl, rfl⟩
  go_wp2_with fail
  refine (isa16 (.iface 132 v) false (fun w => run_typeAssert_lacksB Tryz.underlying118 (by kernel_rfl) (by kernel_rfl) v 20 w) _).mono ?_
  rintro e w' ⟨rfl, rfl⟩
  go_wp2_with fail
  refine (isa17 (.iface 132 v) false (fun w => run_typeAssert_lacksB Tryz.underlying120 (by kernel_rfl) (by kernel_rfl) v 20 w) _).mono ?_
  rintro e w' ⟨rfl, rfl⟩
  go_wp2_with fail
  refine (isa18 (.iface 132 v) false (fun w => run_typeAssert_lacksB Tryz.underlying122 (by kernel_rfl) (by kernel_rfl) v 20 w) _).mono ?_
  rintro e w' ⟨rfl, rfl⟩
  go_wp2_with fail
  refine (isa19 (.iface 132 v) true (fun w => run_typeAssert_hasB Tryz.underlying20 (by kernel_rfl) v 20 w) _).mono ?_
  rintro e w' ⟨rfl, rfl⟩
  go_wp2_with fail
  go_ret
  exact ⟨rfl, rfl⟩
set_option maxRecDepth 100000 in
theorem held7 (v : Value) (w : World) : Calls Tryz.prog 29 #[.iface 134 v] w fun e w' => e = .returned (.int .u32 524290) ∧ w = w' := by
  go_enter Tryz.func29, Tryz.ntmps29
  go_wp2_with fail
  refine (isa1 (.iface 134 v) true (fun w => run_typeAssert_hasB Tryz.underlying70 (by kernel_rfl) v 20 w) _).mono ?_
  rintro e w' ⟨rfl, rfl⟩
  go_wp2_with fail
  refine (isa2 (.iface 134 v) false (fun w => run_typeAssert_lacksB Tryz.underlying90 (by kernel_rfl) (by kernel_rfl) v 20 w) _).mono ?_
  rintro e w' ⟨rfl, rfl⟩
  go_wp2_with fail
  refine (isa3 (.iface 134 v) false (fun w => run_typeAssert_lacksB Tryz.underlying92 (by kernel_rfl) (by kernel_rfl) v 20 w) _).mono ?_
  rintro e w' ⟨rfl, rfl⟩
  go_wp2_with fail
  refine (isa4 (.iface 134 v) false (fun w => run_typeAssert_lacksB Tryz.underlying94 (by kernel_rfl) (by kernel_rfl) v 20 w) _).mono ?_
  rintro e w' ⟨rfl, rfl⟩
  go_wp2_with fail
  refine (isa5 (.iface 134 v) false (fun w => run_typeAssert_lacksB Tryz.underlying96 (by kernel_rfl) (by kernel_rfl) v 20 w) _).mono ?_
  rintro e w' ⟨rfl, rfl⟩
  go_wp2_with fail
  refine (isa6 (.iface 134 v) false (fun w => run_typeAssert_lacksB Tryz.underlying98 (by kernel_rfl) (by kernel_rfl) v 20 w) _).mono ?_
  rintro e w' ⟨rfl, rfl⟩
  go_wp2_with fail
  refine (isa7 (.iface 134 v) false (fun w => run_typeAssert_lacksB Tryz.underlying100 (by kernel_rfl) (by kernel_rfl) v 20 w) _).mono ?_
  rintro e w' ⟨rfl, rfl⟩
  go_wp2_with fail
  refine (isa8 (.iface 134 v) false (fun w => run_typeAssert_lacksB Tryz.underlying102 (by kernel_rfl) (by kernel_rfl) v 20 w) _).mono ?_
  rintro e w' ⟨rfl, rfl⟩
  go_wp2_with fail
  refine (isa9 (.iface 134 v) false (fun w => run_typeAssert_lacksB Tryz.underlying104 (by kernel_rfl) (by kernel_rfl) v 20 w) _).mono ?_
  rintro e w' ⟨rfl, rfl⟩
  go_wp2_with fail
  refine (isa10 (.iface 134 v) false (fun w => run_typeAssert_lacksB Tryz.underlying106 (by kernel_rfl) (by kernel_rfl) v 20 w) _).mono ?_
  rintro e w' ⟨rfl, rfl⟩
  go_wp2_with fail
  refine (isa11 (.iface 134 v) false (fun w => run_typeAssert_lacksB Tryz.underlying108 (by kernel_rfl) (by kernel_rfl) v 20 w) _).mono ?_
  rintro e w' ⟨rfl, rfl⟩
  go_wp2_with fail
  refine (isa12 (.iface 134 v) false (fun w => run_typeAssert_lacksB Tryz.underlying110 (by kernel_rfl) (by kernel_rfl) v 20 w) _).mono ?_
  rintro e w' ⟨rfl, rfl⟩
  go_wp2_with fail
  refine (isa13 (.iface 134 v) false (fun w => run_typeAssert_lacksB Tryz.underlying112 (by kernel_rfl) (by kernel_rfl) v 20 w) _).mono ?_
  rintro e w' ⟨rfl, rfl⟩
  go_wp2_with fail
  refine (isa14 (.iface 134 v) false (fun w => run_typeAssert_lacksB Tryz.underlying114 (by kernel_rfl) (by kernel_rfl) v 20 w) _).mono ?_
  rintro e w' ⟨rfl, rfl⟩
  go_wp2_with fail
  refine (isa15 (.iface 134 v) false (fun w => run_typeAssert_lacksB Tryz.underlying116 (by kernel_rfl) (by kernel_rfl) v 20 w) _).mono ?_
  rintro e w' ⟨rfl, rfl⟩
  go_wp2_with fail
  refine (isa16 (.iface 134 v) false (fun w => run_typeAssert_lacksB Tryz.underlying118 (by kernel_rfl) (by kernel_rfl) v 20 w) _).mono ?_
  rintro e w' ⟨rfl, rfl⟩
  go_wp2_with fail
  refine (isa17 (.iface 134 v) false (fun w => run_typeAssert_lacksB Tryz.underlying120 (by kernel_rfl) (by kernel_rfl) v 20 w) _).mono ?_
  rintro e w' ⟨rfl, rfl⟩
  go_wp2_with fail
  refine (isa18 (.iface 134 v) false (fun w => run_typeAssert_lacksB Tryz.underlying122 (by kernel_rfl) (by kernel_rfl) v 20 w) _).mono ?_
  rintro e w' ⟨rfl, rfl⟩
  go_wp2_with fail
  refine (isa19 (.iface 134 v) true (fun w => run_typeAssert_hasB Tryz.underlying20 (by kernel_rfl) v 20 w) _).mono ?_
  rintro e w' ⟨rfl, rfl⟩
  go_wp2_with fail
  go_ret
  exact ⟨rfl, rfl⟩
set_option maxRecDepth 100000 in
theorem held8 (v : Value) (w : World) : Calls Tryz.prog 29 #[.iface 136 v] w fun e w' => e = .returned (.int .u32 524290) ∧ w = w' := by
  go_enter Tryz.func29, Tryz.ntmps29
  go_wp2_with fail
  refine (isa1 (.iface 136 v) true (fun w => run_typeAssert_hasB Tryz.underlying70 (by kernel_rfl) v 20 w) _).mono ?_
  rintro e w' ⟨rfl, rfl⟩
  go_wp2_with fail
  refine (isa2 (.iface 136 v) false (fun w => run_typeAssert_lacksB Tryz.underlying90 (by kernel_rfl) (by kernel_rfl) v 20 w) _).mono ?_
  rintro e w' ⟨rfl, rfl⟩
  go_wp2_with fail
  refine (isa3 (.iface 136 v) false (fun w => run_typeAssert_lacksB Tryz.underlying92 (by kernel_rfl) (by kernel_rfl) v 20 w) _).mono ?_
  rintro e w' ⟨rfl, rfl⟩
  go_wp2_with fail
  refine (isa4 (.iface 136 v) false (fun w => run_typeAssert_lacksB Tryz.underlying94 (by kernel_rfl) (by kernel_rfl) v 20 w) _).mono ?_
  rintro e w' ⟨rfl, rfl⟩
  go_wp2_with fail
  refine (isa5 (.iface 136 v) false (fun w => run_typeAssert_lacksB Tryz.underlying96 (by kernel_rfl) (by kernel_rfl) v 20 w) _).mono ?_
  rintro e w' ⟨rfl, rfl⟩
  go_wp2_with fail
  refine (isa6 (.iface 136 v) false (fun w => run_typeAssert_lacksB Tryz.underlying98 (by kernel_rfl) (by kernel_rfl) v 20 w) _).mono ?_
  rintro e w' ⟨rfl, rfl⟩
  go_wp2_with fail
  refine (isa7 (.iface 136 v) false (fun w => run_typeAssert_lacksB Tryz.underlying100 (by kernel_rfl) (by kernel_rfl) v 20 w) _).mono ?_
  rintro e w' ⟨rfl, rfl⟩
  go_wp2_with fail
  refine (isa8 (.iface 136 v) false (fun w => run_typeAssert_lacksB Tryz.underlying102 (by kernel_rfl) (by kernel_rfl) v 20 w) _).mono ?_
  rintro e w' ⟨rfl, rfl⟩
  go_wp2_with fail
  refine (isa9 (.iface 136 v) false (fun w => run_typeAssert_lacksB Tryz.underlying104 (by kernel_rfl) (by kernel_rfl) v 20 w) _).mono ?_
  rintro e w' ⟨rfl, rfl⟩
  go_wp2_with fail
  refine (isa10 (.iface 136 v) false (fun w => run_typeAssert_lacksB Tryz.underlying106 (by kernel_rfl) (by kernel_rfl) v 20 w) _).mono ?_
  rintro e w' ⟨rfl, rfl⟩
  go_wp2_with fail
  refine (isa11 (.iface 136 v) false (fun w => run_typeAssert_lacksB Tryz.underlying108 (by kernel_rfl) (by kernel_rfl) v 20 w) _).mono ?_
  rintro e w' ⟨rfl, rfl⟩
  go_wp2_with fail
  refine (isa12 (.iface 136 v) false (fun w => run_typeAssert_lacksB Tryz.underlying110 (by kernel_rfl) (by kernel_rfl) v 20 w) _).mono ?_
  rintro e w' ⟨rfl, rfl⟩
  go_wp2_with fail
  refine (isa13 (.iface 136 v) false (fun w => run_typeAssert_lacksB Tryz.underlying112 (by kernel_rfl) (by kernel_rfl) v 20 w) _).mono ?_
  rintro e w' ⟨rfl, rfl⟩
  go_wp2_with fail
  refine (isa14 (.iface 136 v) false (fun w => run_typeAssert_lacksB Tryz.underlying114 (by kernel_rfl) (by kernel_rfl) v 20 w) _).mono ?_
  rintro e w' ⟨rfl, rfl⟩
  go_wp2_with fail
  refine (isa15 (.iface 136 v) false (fun w => run_typeAssert_lacksB Tryz.underlying116 (by kernel_rfl) (by kernel_rfl) v 20 w) _).mono ?_
  rintro e w' ⟨rfl, rfl⟩
  go_wp2_with fail
  refine (isa16 (.iface 136 v) false (fun w => run_typeAssert_lacksB Tryz.underlying118 (by kernel_rfl) (by kernel_rfl) v 20 w) _).mono ?_
  rintro e w' ⟨rfl, rfl⟩
  go_wp2_with fail
  refine (isa17 (.iface 136 v) false (fun w => run_typeAssert_lacksB Tryz.underlying120 (by kernel_rfl) (by kernel_rfl) v 20 w) _).mono ?_
  rintro e w' ⟨rfl, rfl⟩
  go_wp2_with fail
  refine (isa18 (.iface 136 v) false (fun w => run_typeAssert_lacksB Tryz.underlying122 (by kernel_rfl) (by kernel_rfl) v 20 w) _).mono ?_
  rintro e w' ⟨rfl, rfl⟩
  go_wp2_with fail
  refine (isa19 (.iface 136 v) true (fun w => run_typeAssert_hasB Tryz.underlying20 (by kernel_rfl) v 20 w) _).mono ?_
  rintro e w' ⟨rfl, rfl⟩
  go_wp2_with fail
  go_ret
  exact ⟨rfl, rfl⟩
set_option maxRecDepth 100000 in
theorem held9 (v : Value) (w : World) : Calls Tryz.prog 29 #[.iface 137 v] w fun e w' => e = .returned (.int .u32 524290) ∧ w = w' := by
  go_enter Tryz.func29, Tryz.ntmps29
  go_wp2_with fail
  refine (isa1 (.iface 137 v) true (fun w => run_typeAssert_hasB Tryz.underlying70 (by kernel_rfl) v 20 w) _).mono ?_
  rintro e w' ⟨rfl, rfl⟩
  go_wp2_with fail
  refine (isa2 (.iface 137 v) false (fun w => run_typeAssert_lacksB Tryz.underlying90 (by kernel_rfl) (by kernel_rfl) v 20 w) _).mono ?_
  rintro e w' ⟨rfl, rfl⟩
  go_wp2_with fail
  refine (isa3 (.iface 137 v) false (fun w => run_typeAssert_lacksB Tryz.underlying92 (by kernel_rfl) (by kernel_rfl) v 20 w) _).mono ?_
  rintro e w' ⟨rfl, rfl⟩
  go_wp2_with fail
  refine (isa4 (.iface 137 v) false (fun w => run_typeAssert_lacksB Tryz.underlying94 (by kernel_rfl) (by kernel_rfl) v 20 w) _).mono ?_
  rintro e w' ⟨rfl, rfl⟩
  go_wp2_with fail
  refine (isa5 (.iface 137 v) false (fun w => run_typeAssert_lacksB Tryz.underlying96 (by kernel_rfl) (by kernel_rfl) v 20 w) _).mono ?_
  rintro e w' ⟨rfl, rfl⟩
  go_wp2_with fail
  refine (isa6 (.iface 137 v) false (fun w => run_typeAssert_lacksB Tryz.underlying98 (by kernel_rfl) (by kernel_rfl) v 20 w) _).mono ?_
  rintro e w' ⟨rfl, rfl⟩
  go_wp2_with fail
  refine (isa7 (.iface 137 v) false (fun w => run_typeAssert_lacksB Tryz.underlying100 (by kernel_rfl) (by kernel_rfl) v 20 w) _).mono ?_
  rintro e w' ⟨rfl, rfl⟩
  go_wp2_with fail
  refine (isa8 (.iface 137 v) false (fun w => run_typeAssert_lacksB Tryz.underlying102 (by kernel_rfl) (by kernel_rfl) v 20 w) _).mono ?_
  rintro e w' ⟨rfl, rfl⟩
  go_wp2_with fail
  refine (isa9 (.iface 137 v) false (fun w => run_typeAssert_lacksB Tryz.underlying104 (by kernel_rfl) (by kernel_rfl) v 20 w) _).mono ?_
  rintro e w' ⟨rfl, rfl⟩
  go_wp2_with fail
  refine (isa10 (.iface 137 v) false (fun w => run_typeAssert_lacksB Tryz.underlying106 (by kernel_rfl) (by kernel_rfl) v 20 w) _).mono ?_
  rintro e w' ⟨rfl, rfl⟩
  go_wp2_with fail
  refine (isa11 (.iface 137 v) false (fun w => run_typeAssert_lacksB Tryz.underlying108 (by kernel_rfl) (by kernel_rfl) v 20 w) _).mono ?_
  rintro e w' ⟨rfl, rfl⟩
  go_wp2_with fail
  refine (isa12 (.iface 137 v) false (fun w => run_typeAssert_lacksB Tryz.underlying110 (by kernel_rfl) (by kernel_rfl) v 20 w) _).mono ?_
  rintro e w' ⟨rfl, rfl⟩
  go_wp2_with fail
  refine (isa13 (.iface 137 v) false (fun w => run_typeAssert_lacksB Tryz.underlying112 (by kernel_rfl) (by kernel_rfl) v 20 w) _).mono ?_
  rintro e w' ⟨rfl, rfl⟩
  go_wp2_with fail
  refine (isa14 (.iface 137 v) false (fun w => run_typeAssert_lacksB Tryz.underlying114 (by kernel_rfl) (by kernel_rfl) v 20 w) _).mono ?_
  rintro e w' ⟨rfl, rfl⟩
  go_wp2_with fail
  refine (isa15 (.iface 137 v) false (fun w => run_typeAssert_lacksB Tryz.underlying116 (by kernel_rfl) (by kernel_rfl) v 20 w) _).mono ?_
  rintro e w' ⟨rfl, rfl⟩
  go_wp2_with fail
  refine (isa16 (.iface 137 v) false (fun w => run_typeAssert_lacksB Tryz.underlying118 (by kernel_rfl) (by kernel_rfl) v 20 w) _).mono ?_
  rintro e w' ⟨rfl, rfl⟩
  go_wp2_with fail
  refine (isa17 (.iface 137 v) false (fun w => run_typeAssert_lacksB Tryz.underlying120 (by kernel_rfl) (by kernel_rfl) v 20 w) _).mono ?_
  rintro e w' ⟨rfl, rfl⟩
  go_wp2_with fail
  refine (isa18 (.iface 137 v) false (fun w => run_typeAssert_lacksB Tryz.underlying122 (by kernel_rfl) (by kernel_rfl) v 20 w) _).mono ?_
  rintro e w' ⟨rfl, rfl⟩
  go_wp2_with fail
  refine (isa19 (.iface 137 v) true (fun w => run_typeAssert_hasB Tryz.underlying20 (by kernel_rfl) v 20 w) _).mono ?_
  rintro e w' ⟨rfl, rfl⟩
  go_wp2_with fail
  go_ret
  exact ⟨rfl, rfl⟩
set_option maxRecDepth 100000 in
theorem held10 (v : Value) (w : World) : Calls Tryz.prog 29 #[.iface 138 v] w fun e w' => e = .returned (.int .u32 557122) ∧ w = w' := by
  go_enter Tryz.func29, Tryz.ntmps29
  go_wp2_with fail
  refine (isa1 (.iface 138 v) true (fun w => run_typeAssert_hasB Tryz.underlying70 (by kernel_rfl) v 20 w) _).mono ?_
  rintro e w' ⟨rfl, rfl⟩
  go_wp2_with fail
  refine (isa2 (.iface 138 v) false (fun w => run_typeAssert_lacksB Tryz.underlying90 (by kernel_rfl) (by kernel_rfl) v 20 w) _).mono ?_
  rintro e w' ⟨rfl, rfl⟩
  go_wp2_with fail
  refine (isa3 (.iface 138 v) false (fun w => run_typeAssert_lacksB Tryz.underlying92 (by kernel_rfl) (by kernel_rfl) v 20 w) _).mono ?_
  rintro e w' ⟨rfl, rfl⟩
  go_wp2_with fail
  refine (isa4 (.iface 138 v) false (fun w => run_typeAssert_lacksB Tryz.underlying94 (by kernel_rfl) (by kernel_rfl) v 20 w) _).mono ?_
  rintro e w' ⟨rfl, rfl⟩
  go_wp2_with fail
  refine (isa5 (.iface 138 v) false (fun w => run_typeAssert_lacksB Tryz.underlying96 (by kernel_rfl) (by kernel_rfl) v 20 w) _).mono ?_
  rintro e w' ⟨rfl, rfl⟩
  go_wp2_with fail
  refine (isa6 (.iface 138 v) true (fun w => run_typeAssert_hasB Tryz.underlying98 (by kernel_rfl) v 20 w) _).mono ?_
  rintro e w' ⟨rfl, rfl⟩
  go_wp2_with fail
  refine (isa7 (.iface 138 v) false (fun w => run_typeAssert_lacksB Tryz.underlying100 (by kernel_rfl) (by kernel_rfl) v 20 w) _).mono ?_
  rintro e w' ⟨rfl, rfl⟩
  go_wp2_with fail
  refine (isa8 (.iface 138 v) false (fun w => run_typeAssert_lacksB Tryz.underlying102 (by kernel_rfl) (by kernel_rfl) v 20 w) _).mono ?_
  rintro e w' ⟨rfl, rfl⟩
  go_wp2_with fail
  refine (isa9 (.iface 138 v) false (fun w => run_typeAssert_lacksB Tryz.underlying104 (by kernel_rfl) (by kernel_rfl) v 20 w) _).mono ?_
  rintro e w' ⟨rfl, rfl⟩
  go_wp2_with fail
  refine (isa10 (.iface 138 v) false (fun w => run_typeAssert_lacksB Tryz.underlying106 (by kernel_rfl) (by kernel_rfl) v 20 w) _).mono ?_
  rintro e w' ⟨rfl, rfl⟩
  go_wp2_with fail
  refine (isa11 (.iface 138 v) false (fun w => run_typeAssert_lacksB Tryz.underlying108 (by kernel_rfl) (by kernel_rfl) v 20 w) _).mono ?_
  rintro e w' ⟨rfl, rfl⟩
  go_wp2_with fail
  refine (isa12 (.iface 138 v) false (fun w => run_typeAssert_lacksB Tryz.underlying110 (by kernel_rfl) (by kernel_rfl) v 20 w) _).mono ?_
  rintro e w' ⟨rfl, rfl⟩
  go_wp2_with fail
  refine (isa13 (.iface 138 v) false (fun w => run_typeAssert_lacksB Tryz.underlying112 (by kernel_rfl) (by kernel_rfl) v 20 w) _).mono ?_
  rintro e w' ⟨rfl, rfl⟩
  go_wp2_with fail
  refine (isa14 (.iface 138 v) false (fun w => run_typeAssert_lacksB Tryz.underlying114 (by kernel_rfl) (by kernel_rfl) v 20 w) _).mono ?_
  rintro e w' ⟨rfl, rfl⟩
  go_wp2_with fail
  refine (isa15 (.iface 138 v) true (fun w => run_typeAssert_hasB Tryz.underlying116 (by kernel_rfl) v 20 w) _).mono ?_
  rintro e w' ⟨rfl, rfl⟩
  go_wp2_with fail
  refine (isa16 (.iface 138 v) false (fun w => run_typeAssert_lacksB Tryz.underlying118 (by kernel_rfl) (by kernel_rfl) v 20 w) _).mono ?_
  rintro e w' ⟨rfl, rfl⟩
  go_wp2_with fail
  refine (isa17 (.iface 138 v) false (fun w => run_typeAssert_lacksB Tryz.underlying120 (by kernel_rfl) (by kernel_rfl) v 20 w) _).mono ?_
  rintro e w' ⟨rfl, rfl⟩
  go_wp2_with fail
  refine (isa18 (.iface 138 v) false (fun w => run_typeAssert_lacksB Tryz.underlying122 (by kernel_rfl) (by kernel_rfl) v 20 w) _).mono ?_
  rintro e w' ⟨rfl, rfl⟩
  go_wp2_with fail
  refine (isa19 (.iface 138 v) true (fun w => run_typeAssert_hasB Tryz.underlying20 (by kernel_rfl) v 20 w) _).mono ?_
  rintro e w' ⟨rfl, rfl⟩
  go_wp2_with fail
  go_ret
  exact ⟨rfl, rfl⟩
set_option maxRecDepth 100000 in
theorem held11 (v : Value) (w : World) : Calls Tryz.prog 29 #[.iface 140 v] w fun e w' => e = .returned (.int .u32 524302) ∧ w = w' := by
  go_enter Tryz.func29, Tryz.ntmps29
  go_wp2_with fail
  refine (isa1 (.iface 140 v) true (fun w => run_typeAssert_hasB Tryz.underlying70 (by kernel_rfl) v 20 w) _).mono ?_
  rintro e w' ⟨rfl, rfl⟩
  go_wp2_with fail
  refine (isa2 (.iface 140 v) true (fun w => run_typeAssert_hasB Tryz.underlying90 (by kernel_rfl) v 20 w) _).mono ?_
  rintro e w' ⟨rfl, rfl⟩
  go_wp2_with fail
  refine (isa3 (.iface 140 v) true (fun w => run_typeAssert_hasB Tryz.underlying92 (by kernel_rfl) v 20 w) _).mono ?_
  rintro e w' ⟨rfl, rfl⟩
  go_wp2_with fail
  refine (isa4 (.iface 140 v) false (fun w => run_typeAssert_lacksB Tryz.underlying94 (by kernel_rfl) (by kernel_rfl) v 20 w) _).mono ?_
  rintro e w' ⟨rfl, rfl⟩
  go_wp2_with fail
  refine (isa5 (.iface 140 v) false (fun w => run_typeAssert_lacksB Tryz.underlying96 (by kernel_rfl) (by kernel_rfl) v 20 w) _).mono ?_
  rintro e w' ⟨rfl, rfl⟩
  go_wp2_with fail
  refine (isa6 (.iface 140 v) false (fun w => run_typeAssert_lacksB Tryz.underlying98 (by kernel_rfl) (by kernel_rfl) v 20 w) _).mono ?_
  rintro e w' ⟨rfl, rfl⟩
  go_wp2_with fail
  refine (isa7 (.iface 140 v) false (fun w => run_typeAssert_lacksB Tryz.underlying100 (by kernel_rfl) (by kernel_rfl) v 20 w) _).mono ?_
  rintro e w' ⟨rfl, rfl⟩
  go_wp2_with fail
  refine (isa8 (.iface 140 v) false (fun w => run_typeAssert_lacksB Tryz.underlying102 (by kernel_rfl) (by kernel_rfl) v 20 w) _).mono ?_
  rintro e w' ⟨rfl, rfl⟩
  go_wp2_with fail
  refine (isa9 (.iface 140 v) false (fun w => run_typeAssert_lacksB Tryz.underlying104 (by kernel_rfl) (by kernel_rfl) v 20 w) _).mono ?_
  rintro e w' ⟨rfl, rfl⟩
  go_wp2_with fail
  refine (isa10 (.iface 140 v) false (fun w => run_typeAssert_lacksB Tryz.underlying106 (by kernel_rfl) (by kernel_rfl) v 20 w) _).mono ?_
  rintro e w' ⟨rfl, rfl⟩
  go_wp2_with fail
  refine (isa11 (.iface 140 v) false (fun w => run_typeAssert_lacksB Tryz.underlying108 (by kernel_rfl) (by kernel_rfl) v 20 w) _).mono ?_
  rintro e w' ⟨rfl, rfl⟩
  go_wp2_with fail
  refine (isa12 (.iface 140 v) false (fun w => run_typeAssert_lacksB Tryz.underlying110 (by kernel_rfl) (by kernel_rfl) v 20 w) _).mono ?_
  rintro e w' ⟨rfl, rfl⟩
  go_wp2_with fail
  refine (isa13 (.iface 140 v) false (fun w => run_typeAssert_lacksB Tryz.underlying112 (by kernel_rfl) (by kernel_rfl) v 20 w) _).mono ?_
  rintro e w' ⟨rfl, rfl⟩
  go_wp2_with fail
  refine (isa14 (.iface 140 v) false (fun w => run_typeAssert_lacksB Tryz.underlying114 (by kernel_rfl) (by kernel_rfl) v 20 w) _).mono ?_
  rintro e w' ⟨rfl, rfl⟩
  go_wp2_with fail
  refine (isa15 (.iface 140 v) false (fun w => run_typeAssert_lacksB Tryz.underlying116 (by kernel_rfl) (by kernel_rfl) v 20 w) _).mono ?_
  rintro e w' ⟨rfl, rfl⟩
  go_wp2_with fail
  refine (isa16 (.iface 140 v) false (fun w => run_typeAssert_lacksB Tryz.underlying118 (by kernel_rfl) (by kernel_rfl) v 20 w) _).mono ?_
  rintro e w' ⟨rfl, rfl⟩
  go_wp2_with fail
  refine (isa17 (.iface 140 v) false (fun w => run_typeAssert_lacksB Tryz.underlying120 (by kernel_rfl) (by kernel_rfl) v 20 w) _).mono ?_
  rintro e w' ⟨rfl, rfl⟩
  go_wp2_with fail
  refine (isa18 (.iface 140 v) false (fun w => run_typeAssert_lacksB Tryz.underlying122 (by kernel_rfl) (by kernel_rfl) v 20 w) _).mono ?_
  rintro e w' ⟨rfl, rfl⟩
  go_wp2_with fail
  refine (isa19 (.iface 140 v) true (fun w => run_typeAssert_hasB Tryz.underlying20 (by kernel_rfl) v 20 w) _).mono ?_
  rintro e w' ⟨rfl, rfl⟩
  go_wp2_with fail
  go_ret
  exact ⟨rfl, rfl⟩
set_option maxRecDepth 100000 in
theorem held12 (v : Value) (w : World) : Calls Tryz.prog 29 #[.iface 142 v] w fun e w' => e = .returned (.int .u32 524546) ∧ w = w' := by
  go_enter Tryz.func29, Tryz.ntmps29
  go_wp2_with fail
  refine (isa1 (.iface 142 v) true (fun w => run_typeAssert_hasB Tryz.underlying70 (by kernel_rfl) v 20 w) _).mono ?_
  rintro e w' ⟨rfl, rfl⟩
  go_wp2_with fail
  refine (isa2 (.iface 142 v) false (fun w => run_typeAssert_lacksB Tryz.underlying90 (by kernel_rfl) (by kernel_rfl) v 20 w) _).mono ?_
  rintro e w' ⟨rfl, rfl⟩
  go_wp2_with fail
  refine (isa3 (.iface 142 v) false (fun w => run_typeAssert_lacksB Tryz.underlying92 (by kernel_rfl) (by kernel_rfl) v 20 w) _).mono ?_
  rintro e w' ⟨rfl, rfl⟩
  go_wp2_with fail
  refine (isa4 (.iface 142 v) false (fun w => run_typeAssert_lacksB Tryz.underlying94 (by kernel_rfl) (by kernel_rfl) v 20 w) _).mono ?_
  rintro e w' ⟨rfl, rfl⟩
  go_wp2_with fail
  refine (isa5 (.iface 142 v) false (fun w => run_typeAssert_lacksB Tryz.underlying96 (by kernel_rfl) (by kernel_rfl) v 20 w) _).mono ?_
  rintro e w' ⟨rfl, rfl⟩
  go_wp2_with fail
  refine (isa6 (.iface 142 v) false (fun w => run_typeAssert_lacksB Tryz.underlying98 (by kernel_rfl) (by kernel_rfl) v 20 w) _).mono ?_
  rintro e w' ⟨rfl, rfl⟩
  go_wp2_with fail
  refine (isa7 (.iface 142 v) false (fun w => run_typeAssert_lacksB Tryz.underlying100 (by kernel_rfl) (by kernel_rfl) v 20 w) _).mono ?_
  rintro e w' ⟨rfl, rfl⟩
  go_wp2_with fail
  refine (isa8 (.iface 142 v) true (fun w => run_typeAssert_hasB Tryz.underlying102 (by kernel_rfl) v 20 w) _).mono ?_
  rintro e w' ⟨rfl, rfl⟩
  go_wp2_with fail
  refine (isa9 (.iface 142 v) false (fun w => run_typeAssert_lacksB Tryz.underlying104 (by kernel_rfl) (by kernel_rfl) v 20 w) _).mono ?_
  rintro e w' ⟨rfl, rfl⟩
  go_wp2_with fail
  refine (isa10 (.iface 142 v) false (fun w => run_typeAssert_lacksB Tryz.underlying106 (by kernel_rfl) (by kernel_rfl) v 20 w) _).mono ?_
  rintro e w' ⟨rfl, rfl⟩
  go_wp2_with fail
  refine (isa11 (.iface 142 v) false (fun w => run_typeAssert_lacksB Tryz.underlying108 (by kernel_rfl) (by kernel_rfl) v 20 w) _).mono ?_
  rintro e w' ⟨rfl, rfl⟩
  go_wp2_with fail
  refine (isa12 (.iface 142 v) false (fun w => run_typeAssert_lacksB Tryz.underlying110 (by kernel_rfl) (by kernel_rfl) v 20 w) _).mono ?_
  rintro e w' ⟨rfl, rfl⟩
  go_wp2_with fail
  refine (isa13 (.iface 142 v) false (fun w => run_typeAssert_lacksB Tryz.underlying112 (by kernel_rfl) (by kernel_rfl) v 20 w) _).mono ?_
  rintro e w' ⟨rfl, rfl⟩
  go_wp2_with fail
  refine (isa14 (.iface 142 v) false (fun w => run_typeAssert_lacksB Tryz.underlying114 (by kernel_rfl) (by kernel_rfl) v 20 w) _).mono ?_
  rintro e w' ⟨rfl, rfl⟩
  go_wp2_with fail
  refine (isa15 (.iface 142 v) false (fun w => run_typeAssert_lacksB Tryz.underlying116 (by kernel_rfl) (by kernel_rfl) v 20 w) _).mono ?_
  rintro e w' ⟨rfl, rfl⟩
  go_wp2_with fail
  refine (isa16 (.iface 142 v) false (fun w => run_typeAssert_lacksB Tryz.underlying118 (by kernel_rfl) (by kernel_rfl) v 20 w) _).mono ?_
  rintro e w' ⟨rfl, rfl⟩
  go_wp2_with fail
  refine (isa17 (.iface 142 v) false (fun w => run_typeAssert_lacksB Tryz.underlying120 (by kernel_rfl) (by kernel_rfl) v 20 w) _).mono ?_
  rintro e w' ⟨rfl, rfl⟩
  go_wp2_with fail
  refine (isa18 (.iface 142 v) false (fun w => run_typeAssert_lacksB Tryz.underlying122 (by kernel_rfl) (by kernel_rfl) v 20 w) _).mono ?_
  rintro e w' ⟨rfl, rfl⟩
  go_wp2_with fail
  refine (isa19 (.iface 142 v) true (fun w => run_typeAssert_hasB Tryz.underlying20 (by kernel_rfl) v 20 w) _).mono ?_
  rintro e w' ⟨rfl, rfl⟩
  go_wp2_with fail
  go_ret
  exact ⟨rfl, rfl⟩
set_option maxRecDepth 100000 in
theorem held13 (v : Value) (w : World) : Calls Tryz.prog 29 #[.iface 144 v] w fun e w' => e = .returned (.int .u32 524290) ∧ w = w' := by
  go_enter Tryz.func29, Tryz.ntmps29
  go_wp2_with fail
  refine (isa1 (.iface 144 v) true (fun w => run_typeAssert_hasB Tryz.underlying70 (by kernel_rfl) v 20 w) _).mono ?_
  rintro e w' ⟨rfl, rfl⟩
  go_wp2_with fail
  refine (isa2 (.iface 144 v) false (fun w => run_typeAssert_lacksB Tryz.underlying90 (by kernel_rfl) (by kernel_rfl) v 20 w) _).mono ?_
  rintro e w' ⟨rfl, rfl⟩
  go_wp2_with fail
  refine (isa3 (.iface 144 v) false (fun w => run_typeAssert_lacksB Tryz.underlying92 (by kernel_rfl) (by kernel_rfl) v 20 w) _).mono ?_
  rintro e w' ⟨rfl, rfl⟩
  go_wp2_with fail
  refine (isa4 (.iface 144 v) false (fun w => run_typeAssert_lacksB Tryz.underlying94 (by kernel_rfl) (by kernel_rfl) v 20 w) _).mono ?_
  rintro e w' ⟨rfl, rfl⟩
  go_wp2_with fail
  refine (isa5 (.iface 144 v) false (fun w => run_typeAssert_lacksB Tryz.underlying96 (by kernel_rfl) (by kernel_rfl) v 20 w) _).mono ?_
  rintro e w' ⟨rfl, rfl⟩
  go_wp2_with fail
  refine (isa6 (.iface 144 v) false (fun w => run_typeAssert_lacksB Tryz.underlying98 (by kernel_rfl) (by kernel_rfl) v 20 w) _).mono ?_
  rintro e w' ⟨rfl, rfl⟩
  go_wp2_with fail
  refine (isa7 (.iface 144 v) false (fun w => run_typeAssert_lacksB Tryz.underlying100 (by kernel_rfl) (by kernel_rfl) v 20 w) _).mono ?_
  rintro e w' ⟨rfl, rfl⟩
  go_wp2_with fail
  refine (isa8 (.iface 144 v) false (fun w => run_typeAssert_lacksB Tryz.underlying102 (by kernel_rfl) (by kernel_rfl) v 20 w) _).mono ?_
  rintro e w' ⟨rfl, rfl⟩
  go_wp2_with fail
  refine (isa9 (.iface 144 v) false (fun w => run_typeAssert_lacksB Tryz.underlying104 (by kernel_rfl) (by kernel_rfl) v 20 w) _).mono ?_
  rintro e w' ⟨rfl, rfl⟩
  go_wp2_with fail
  refine (isa10 (.iface 144 v) false (fun w => run_typeAssert_lacksB Tryz.underlying106 (by kernel_rfl) (by kernel_rfl) v 20 w) _).mono ?_
  rintro e w' ⟨rfl, rfl⟩
  go_wp2_with fail
  refine (isa11 (.iface 144 v) false (fun w => run_typeAssert_lacksB Tryz.underlying108 (by kernel_rfl) (by kernel_rfl) v 20 w) _).mono ?_
  rintro e w' ⟨rfl, rfl⟩
  go_wp2_with fail
  refine (isa12 (.iface 144 v) false (fun w => run_typeAssert_lacksB Tryz.underlying110 (by kernel_rfl) (by kernel_rfl) v 20 w) _).mono ?_
  rintro e w' ⟨rfl, rfl⟩
  go_wp2_with fail
  refine (isa13 (.iface 144 v) false (fun w => run_typeAssert_lacksB Tryz.underlying112 (by kernel_rfl) (by kernel_rfl) v 20 w) _).mono ?_
  rintro e w' ⟨rfl, rfl⟩
  go_wp2_with fail
  refine (isa14 (.iface 144 v) false (fun w => run_typeAssert_lacksB Tryz.underlying114 (by kernel_rfl) (by kernel_rfl) v 20 w) _).mono ?_
  rintro e w' ⟨rfl, rfl⟩
  go_wp2_with fail
  refine (isa15 (.iface 144 v) false (fun w => run_typeAssert_lacksB Tryz.underlying116 (by kernel_rfl) (by kernel_rfl) v 20 w) _).mono ?_
  rintro e w' ⟨rfl, rfl⟩
  go_wp2_with fail
  refine (isa16 (.iface 144 v) false (fun w => run_typeAssert_lacksB Tryz.underlying118 (by kernel_rfl) (by kernel_rfl) v 20 w) _).mono ?_
  rintro e w' ⟨rfl, rfl⟩
  go_wp2_with fail
  refine (isa17 (.iface 144 v) false (fun w => run_typeAssert_lacksB Tryz.underlying120 (by kernel_rfl) (by kernel_rfl) v 20 w) _).mono ?_
  rintro e w' ⟨rfl, rfl⟩
  go_wp2_with fail
  refine (isa18 (.iface 144 v) false (fun w => run_typeAssert_lacksB Tryz.underlying122 (by kernel_rfl) (by kernel_rfl) v 20 w) _).mono ?_
  rintro e w' ⟨rfl, rfl⟩
  go_wp2_with fail
  refine (isa19 (.iface 144 v) true (fun w => run_typeAssert_hasB Tryz.underlying20 (by kernel_rfl) v 20 w) _).mono ?_
  rintro e w' ⟨rfl, rfl⟩
  go_wp2_with fail
  go_ret
  exact ⟨rfl, rfl⟩
set_option maxRecDepth 100000 in
theorem held14 (v : Value) (w : World) : Calls Tryz.prog 29 #[.iface 145 v] w fun e w' => e = .returned (.int .u32 524802) ∧ w = w' := by
  go_enter Tryz.func29, Tryz.ntmps29
  go_wp2_with fail
  refine (isa1 (.iface 145 v) true (fun w => run_typeAssert_hasB Tryz.underlying70 (by kernel_rfl) v 20 w) _).mono ?_
  rintro e w' ⟨rfl, rfl⟩
  go_wp2_with fail
  refine (isa2 (.iface 145 v) false (fun w => run_typeAssert_lacksB Tryz.underlying90 (by kernel_rfl) (by kernel_rfl) v 20 w) _).mono ?_
  rintro e w' ⟨rfl, rfl⟩
  go_wp2_with fail
  refine (isa3 (.iface 145 v) false (fun w => run_typeAssert_lacksB Tryz.underlying92 (by kernel_rfl) (by kernel_rfl) v 20 w) _).mono ?_
  rintro e w' ⟨rfl, rfl⟩
  go_wp2_with fail
  refine (isa4 (.iface 145 v) false (fun w => run_typeAssert_lacksB Tryz.underlying94 (by kernel_rfl) (by kernel_rfl) v 20 w) _).mono ?_
  rintro e w' ⟨rfl, rfl⟩
  go_wp2_with fail
  refine (isa5 (.iface 145 v) false (fun w => run_typeAssert_lacksB Tryz.underlying96 (by kernel_rfl) (by kernel_rfl) v 20 w) _).mono ?_
  rintro e w' ⟨rfl, rfl⟩
  go_wp2_with fail
  refine (isa6 (.iface 145 v) false (fun w => run_typeAssert_lacksB Tryz.underlying98 (by kernel_rfl) (by kernel_rfl) v 20 w) _).mono ?_
  rintro e w' ⟨rfl, rfl⟩
  go_wp2_with fail
  refine (isa7 (.iface 145 v) false (fun w => run_typeAssert_lacksB Tryz.underlying100 (by kernel_rfl) (by kernel_rfl) v 20 w) _).mono ?_
  rintro e w' ⟨rfl, rfl⟩
  go_wp2_with fail
  refine (isa8 (.iface 145 v) false (fun w => run_typeAssert_lacksB Tryz.underlying102 (by kernel_rfl) (by kernel_rfl) v 20 w) _).mono ?_
  rintro e w' ⟨rfl, rfl⟩
  go_wp2_with fail
  refine (isa9 (.iface 145 v) true (fun w => run_typeAssert_hasB Tryz.underlying104 (by kernel_rfl) v 20 w) _).mono ?_
  rintro e w' ⟨rfl, rfl⟩
  go_wp2_with fail
  refine (isa10 (.iface 145 v) false (fun w => run_typeAssert_lacksB Tryz.underlying106 (by kernel_rfl) (by kernel_rfl) v 20 w) _).mono ?_
  rintro e w' ⟨rfl, rfl⟩
  go_wp2_with fail
  refine (isa11 (.iface 145 v) false (fun w => run_typeAssert_lacksB Tryz.underlying108 (by kernel_rfl) (by kernel_rfl) v 20 w) _).mono ?_
  rintro e w' ⟨rfl, rfl⟩
  go_wp2_with fail
  refine (isa12 (.iface 145 v) false (fun w => run_typeAssert_lacksB Tryz.underlying110 (by kernel_rfl) (by kernel_rfl) v 20 w) _).mono ?_
  rintro e w' ⟨rfl, rfl⟩
  go_wp2_with fail
  refine (isa13 (.iface 145 v) false (fun w => run_typeAssert_lacksB Tryz.underlying112 (by kernel_rfl) (by kernel_rfl) v 20 w) _).mono ?_
  rintro e w' ⟨rfl, rfl⟩
  go_wp2_with fail
  refine (isa14 (.iface 145 v) false (fun w => run_typeAssert_lacksB Tryz.underlying114 (by kernel_rfl) (by kernel_rfl) v 20 w) _).mono ?_
  rintro e w' ⟨rfl, rfl⟩
  go_wp2_with fail
  refine (isa15 (.iface 145 v) false (fun w => run_typeAssert_lacksB Tryz.underlying116 (by kernel_rfl) (by kernel_rfl) v 20 w) _).mono ?_
  rintro e w' ⟨rfl, rfl⟩
  go_wp2_with fail
  refine (isa16 (.iface 145 v) false (fun w => run_typeAssert_lacksB Tryz.underlying118 (by kernel_rfl) (by kernel_rfl) v 20 w) _).mono ?_
  rintro e w' ⟨rfl, rfl⟩
  go_wp2_with fail
  refine (isa17 (.iface 145 v) false (fun w => run_typeAssert_lacksB Tryz.underlying120 (by kernel_rfl) (by kernel_rfl) v 20 w) _).mono ?_
  rintro e w' ⟨rfl, rfl⟩
  go_wp2_with fail
  refine (isa18 (.iface 145 v) false (fun w => run_typeAssert_lacksB Tryz.underlying122 (by kernel_rfl) (by kernel_rfl) v 20 w) _).mono ?_
  rintro e w' ⟨rfl, rfl⟩
  go_wp2_with fail
  refine (isa19 (.iface 145 v) true (fun w => run_typeAssert_hasB Tryz.underlying20 (by kernel_rfl) v 20 w) _).mono ?_
  rintro e w' ⟨rfl, rfl⟩
  go_wp2_with fail
  go_ret
  exact ⟨rfl, rfl⟩
set_option maxRecDepth 100000 in
theorem held15 (v : Value) (w : World) : Calls Tryz.prog 29 #[.iface 147 v] w fun e w' => e = .returned (.int .u32 524802) ∧ w = w' := by
  go_enter Tryz.func29, Tryz.ntmps29
  go_wp2_with fail
  refine (isa1 (.iface 147 v) true (fun w => run_typeAssert_hasB Tryz.underlying70 (by kernel_rfl) v 20 w) _).mono ?_
  rintro e w' ⟨rfl, rfl⟩
  go_wp2_with fail
  refine (isa2 (.iface 147 v) false (fun w => run_typeAssert_lacksB Tryz.underlying90 (by kernel_rfl) (by kernel_rfl) v 20 w) _).mono ?_
  rintro e w' ⟨rfl, rfl⟩
  go_wp2_with fail
  refine (isa3 (.iface 147 v) false (fun w => run_typeAssert_lacksB Tryz.underlying92 (by kernel_rfl) (by kernel_rfl) v 20 w) _).mono ?_
  rintro e w' ⟨rfl, rfl⟩
  go_wp2_with fail
  refine (isa4 (.iface 147 v) false (fun w => run_typeAssert_lacksB Tryz.underlying94 (by kernel_rfl) (by kernel_rfl) v 20 w) _).mono ?_
  rintro e w' ⟨rfl, rfl⟩
  go_wp2_with fail
  refine (isa5 (.iface 147 v) false (fun w => run_typeAssert_lacksB Tryz.underlying96 (by kernel_rfl) (by kernel_rfl) v 20 w) _).mono ?_
  rintro e w' ⟨rfl, rfl⟩
  go_wp2_with fail
  refine (isa6 (.iface 147 v) false (fun w => run_typeAssert_lacksB Tryz.underlying98 (by kernel_rfl) (by kernel_rfl) v 20 w) _).mono ?_
  rintro e w' ⟨rfl, rfl⟩
  go_wp2_with fail
  refine (isa7 (.iface 147 v) false (fun w => run_typeAssert_lacksB Tryz.underlying100 (by kernel_rfl) (by kernel_rfl) v 20 w) _).mono ?_
  rintro e w' ⟨rfl, rfl⟩
  go_wp2_with fail
  refine (isa8 (.iface 147 v) false (fun w => run_typeAssert_lacksB Tryz.underlying102 (by kernel_rfl) (by kernel_rfl) v 20 w) _).mono ?_
  rintro e w' ⟨rfl, rfl⟩
  go_wp2_with fail
  refine (isa9 (.iface 147 v) true (fun w => run_typeAssert_hasB Tryz.underlying104 (by kernel_rfl) v 20 w) _).mono ?_
  rintro e w' ⟨rfl, rfl⟩
  go_wp2_with fail
  refine (isa10 (.iface 147 v) false (fun w => run_typeAssert_lacksB Tryz.underlying106 (by kernel_rfl) (by kernel_rfl) v 20 w) _).mono ?_
  rintro e w' ⟨rfl, rfl⟩
  go_wp2_with fail
  refine (isa11 (.iface 147 v) false (fun w => run_typeAssert_lacksB Tryz.underlying108 (by kernel_rfl) (by kernel_rfl) v 20 w) _).mono ?_
  rintro e w' ⟨rfl, rfl⟩
  go_wp2_with fail
  refine (isa12 (.iface 147 v) false (fun w => run_typeAssert_lacksB Tryz.underlying110 (by kernel_rfl) (by kernel_rfl) v 20 w) _).mono ?_
  rintro e w' ⟨rfl, rfl⟩
  go_wp2_with fail
  refine (isa13 (.iface 147 v) false (fun w => run_typeAssert_lacksB Tryz.underlying112 (by kernel_rfl) (by kernel_rfl) v 20 w) _).mono ?_
  rintro e w' ⟨rfl, rfl⟩
  go_wp2_with fail
  refine (isa14 (.iface 147 v) false (fun w => run_typeAssert_lacksB Tryz.underlying114 (by kernel_rfl) (by kernel_rfl) v 20 w) _).mono ?_
  rintro e w' ⟨rfl, rfl⟩
  go_wp2_with fail
  refine (isa15 (.iface 147 v) false (fun w => run_typeAssert_lacksB Tryz.underlying116 (by kernel_rfl) (by kernel_rfl) v 20 w) _).mono ?_
  rintro e w' ⟨rfl, rfl⟩
  go_wp2_with fail
  refine (isa16 (.iface 147 v) false (fun w => run_typeAssert_lacksB Tryz.underlying118 (by kernel_rfl) (by kernel_rfl) v 20 w) _).mono ?_
  rintro e w' ⟨rfl, rfl⟩
  go_wp2_with fail
  refine (isa17 (.iface 147 v) false (fun w => run_typeAssert_lacksB Tryz.underlying120 (by kernel_rfl) (by kernel_rfl) v 20 w) _).mono ?_
  rintro e w' ⟨rfl, rfl⟩
  go_wp2_with fail
  refine (isa18 (.iface 147 v) false (fun w => run_typeAssert_lacksB Tryz.underlying122 (by kernel_rfl) (by kernel_rfl) v 20 w) _).mono ?_
  rintro e w' ⟨rfl, rfl⟩
  go_wp2_with fail
  refine (isa19 (.iface 147 v) true (fun w => run_typeAssert_hasB Tryz.underlying20 (by kernel_rfl) v 20 w) _).mono ?_
  rintro e w' ⟨rfl, rfl⟩
  go_wp2_with fail
  go_ret
  exact ⟨rfl, rfl⟩
set_option maxRecDepth 100000 in
theorem held16 (v : Value) (w : World) : Calls Tryz.prog 29 #[.iface 148 v] w fun e w' => e = .returned (.int .u32 525314) ∧ w = w' := by
  go_enter Tryz.func29, Tryz.ntmps29
  go_wp2_with fail
  refine (isa1 (.iface 148 v) true (fun w => run_typeAssert_hasB Tryz.underlying70 (by kernel_rfl) v 20 w) _).mono ?_
  rintro e w' ⟨rfl, rfl⟩
  go_wp2_with fail
  refine (isa2 (.iface 148 v) false (fun w => run_typeAssert_lacksB Tryz.underlying90 (by kernel_rfl) (by kernel_rfl) v 20 w) _).mono ?_
  rintro e w' ⟨rfl, rfl⟩
  go_wp2_with fail
  refine (isa3 (.iface 148 v) false (fun w => run_typeAssert_lacksB Tryz.underlying92 (by kernel_rfl) (by kernel_rfl) v 20 w) _).mono ?_
  rintro e w' ⟨rfl, rfl⟩
  go_wp2_with fail
  refine (isa4 (.iface 148 v) false (fun w => run_typeAssert_lacksB Tryz.underlying94 (by kernel_rfl) (by kernel_rfl) v 20 w) _).mono ?_
  rintro e w' ⟨rfl, rfl⟩
  go_wp2_with fail
  refine (isa5 (.iface 148 v) false (fun w => run_typeAssert_lacksB Tryz.underlying96 (by kernel_rfl) (by kernel_rfl) v 20 w) _).mono ?_
  rintro e w' ⟨rfl, rfl⟩
  go_wp2_with fail
  refine (isa6 (.iface 148 v) false (fun w => run_typeAssert_lacksB Tryz.underlying98 (by kernel_rfl) (by kernel_rfl) v 20 w) _).mono ?_
  rintro e w' ⟨rfl, rfl⟩
  go_wp2_with fail
  refine (isa7 (.iface 148 v) false (fun w => run_typeAssert_lacksB Tryz.underlying100 (by kernel_rfl) (by kernel_rfl) v 20 w) _).mono ?_
  rintro e w' ⟨rfl, rfl⟩
  go_wp2_with fail
  refine (isa8 (.iface 148 v) false (fun w => run_typeAssert_lacksB Tryz.underlying102 (by kernel_rfl) (by kernel_rfl) v 20 w) _).mono ?_
  rintro e w' ⟨rfl, rfl⟩
  go_wp2_with fail
  refine (isa9 (.iface 148 v) false (fun w => run_typeAssert_lacksB Tryz.underlying104 (by kernel_rfl) (by kernel_rfl) v 20 w) _).mono ?_
  rintro e w' ⟨rfl, rfl⟩
  go_wp2_with fail
  refine (isa10 (.iface 148 v) true (fun w => run_typeAssert_hasB Tryz.underlying106 (by kernel_rfl) v 20 w) _).mono ?_
  rintro e w' ⟨rfl, rfl⟩
  go_wp2_with fail
  refine (isa11 (.iface 148 v) false (fun w => run_typeAssert_lacksB Tryz.underlying108 (by kernel_rfl) (by kernel_rfl) v 20 w) _).mono ?_
  rintro e w' ⟨rfl, rfl⟩
  go_wp2_with fail
  refine (isa12 (.iface 148 v) false (fun w => run_typeAssert_lacksB Tryz.underlying110 (by kernel_rfl) (by kernel_rfl) v 20 w) _).mono ?_
  rintro e w' ⟨rfl, rfl⟩
  go_wp2_with fail
  refine (isa13 (.iface 148 v) false (fun w => run_typeAssert_lacksB Tryz.underlying112 (by kernel_rfl) (by kernel_rfl) v 20 w) _).mono ?_
  rintro e w' ⟨rfl, rfl⟩
  go_wp2_with fail
  refine (isa14 (.iface 148 v) false (fun w => run_typeAssert_lacksB Tryz.underlying114 (by kernel_rfl) (by kernel_rfl) v 20 w) _).mono ?_
  rintro e w' ⟨rfl, rfl⟩
  go_wp2_with fail
  refine (isa15 (.iface 148 v) false (fun w => run_typeAssert_lacksB Tryz.underlying116 (by kernel_rfl) (by kernel_rfl) v 20 w) _).mono ?_
  rintro e w' ⟨rfl, rfl⟩
  go_wp2_with fail
  refine (isa16 (.iface 148 v) false (fun w => run_typeAssert_lacksB Tryz.underlying118 (by kernel_rfl) (by kernel_rfl) v 20 w) _).mono ?_
  rintro e w' ⟨rfl, rfl⟩
  go_wp2_with fail
  refine (isa17 (.iface 148 v) false (fun w => run_typeAssert_lacksB Tryz.underlying120 (by kernel_rfl) (by kernel_rfl) v 20 w) _).mono ?_
  rintro e w' ⟨rfl, rfl⟩
  go_wp2_with fail
  refine (isa18 (.iface 148 v) false (fun w => run_typeAssert_lacksB Tryz.underlying122 (by kernel_rfl) (by kernel_rfl) v 20 w) _).mono ?_
  rintro e w' ⟨rfl, rfl⟩
  go_wp2_with fail
  refine (isa19 (.iface 148 v) true (fun w => run_typeAssert_hasB Tryz.underlying20 (by kernel_rfl) v 20 w) _).mono ?_
  rintro e w' ⟨rfl, rfl⟩
  go_wp2_with fail
  go_ret
  exact ⟨rfl, rfl⟩
set_option maxRecDepth 100000 in
theorem held17 (v : Value) (w : World) : Calls Tryz.prog 29 #[.iface 150 v] w fun e w' => e = .returned (.int .u32 557122) ∧ w = w' := by
  go_enter Tryz.func29, Tryz.ntmps29
  go_wp2_with fail
  refine (isa1 (.iface 150 v) true (fun w => run_typeAssert_hasB Tryz.underlying70 (by kernel_rfl) v 20 w) _).mono ?_
  rintro e w' ⟨rfl, rfl⟩
  go_wp2_with fail
  refine (isa2 (.iface 150 v) false (fun w => run_typeAssert_lacksB Tryz.underlying90 (by kernel_rfl) (by kernel_rfl) v 20 w) _).mono ?_
  rintro e w' ⟨rfl, rfl⟩
  go_wp2_with fail
  refine (isa3 (.iface 150 v) false (fun w => run_typeAssert_lacksB Tryz.underlying92 (by kernel_rfl) (by kernel_rfl) v 20 w) _).mono ?_
  rintro e w' ⟨rfl, rfl⟩
  go_wp2_with fail
  refine (isa4 (.iface 150 v) false (fun w => run_typeAssert_lacksB Tryz.underlying94 (by kernel_rfl) (by kernel_rfl) v 20 w) _).mono ?_
  rintro e w' ⟨rfl, rfl⟩
  go_wp2_with fail
  refine (isa5 (.iface 150 v) false (fun w => run_typeAssert_lacksB Tryz.underlying96 (by kernel_rfl) (by kernel_rfl) v 20 w) _).mono ?_
  rintro e w' ⟨rfl, rfl⟩
  go_wp2_with fail
  refine (isa6 (.iface 150 v) true (fun w => run_typeAssert_hasB Tryz.underlying98 (by kernel_rfl) v 20 w) _).mono ?_
  rintro e w' ⟨rfl, rfl⟩
  go_wp2_with fail
  refine (isa7 (.iface 150 v) false (fun w => run_typeAssert_lacksB Tryz.underlying100 (by kernel_rfl) (by kernel_rfl) v 20 w) _).mono ?_
  rintro e w' ⟨rfl, rfl⟩
  go_wp2_with fail
  refine (isa8 (.iface 150 v) false (fun w => run_typeAssert_lacksB Tryz.underlying102 (by kernel_rfl) (by kernel_rfl) v 20 w) _).mono ?_
  rintro e w' ⟨rfl, rfl⟩
  go_wp2_with fail
  refine (isa9 (.iface 150 v) false (fun w => run_typeAssert_lacksB Tryz.underlying104 (by kernel_rfl) (by kernel_rfl) v 20 w) _).mono ?_
  rintro e w' ⟨rfl, rfl⟩
  go_wp2_with fail
  refine (isa10 (.iface 150 v) false (fun w => run_typeAssert_lacksB Tryz.underlying106 (by kernel_rfl) (by kernel_rfl) v 20 w) _).mono ?_
  rintro e w' ⟨rfl, rfl⟩
  go_wp2_with fail
  refine (isa11 (.iface 150 v) false (fun w => run_typeAssert_lacksB Tryz.underlying108 (by kernel_rfl) (by kernel_rfl) v 20 w) _).mono ?_
  rintro e w' ⟨rfl, rfl⟩
  go_wp2_with fail
  refine (isa12 (.iface 150 v) false (fun w => run_typeAssert_lacksB Tryz.underlying110 (by kernel_rfl) (by kernel_rfl) v 20 w) _).mono ?_
  rintro e w' ⟨rfl, rfl⟩
  go_wp2_with fail
  refine (isa13 (.iface 150 v) false (fun w => run_typeAssert_lacksB Tryz.underlying112 (by kernel_rfl) (by kernel_rfl) v 20 w) _).mono ?_
  rintro e w' ⟨rfl, rfl⟩
  go_wp2_with fail
  refine (isa14 (.iface 150 v) false (fun w => run_typeAssert_lacksB Tryz.underlying114 (by kernel_rfl) (by kernel_rfl) v 20 w) _).mono ?_
  rintro e w' ⟨rfl, rfl⟩
  go_wp2_with fail
  refine (isa15 (.iface 150 v) true (fun w => run_typeAssert_hasB Tryz.underlying116 (by kernel_rfl) v 20 w) _).mono ?_
  rintro e w' ⟨rfl, rfl⟩
  go_wp2_with fail
  refine (isa16 (.iface 150 v) false (fun w => run_typeAssert_lacksB Tryz.underlying118 (by kernel_rfl) (by kernel_rfl) v 20 w) _).mono ?_
  rintro e w' ⟨rfl, rfl⟩
  go_wp2_with fail
  refine (isa17 (.iface 150 v) false (fun w => run_typeAssert_lacksB Tryz.underlying120 (by kernel_rfl) (by kernel_rfl) v 20 w) _).mono ?_
  rintro e w' ⟨rfl, rfl⟩
  go_wp2_with fail
  refine (isa18 (.iface 150 v) false (fun w => run_typeAssert_lacksB Tryz.underlying122 (by kernel_rfl) (by kernel_rfl) v 20 w) _).mono ?_
  rintro e w' ⟨rfl, rfl⟩
  go_wp2_with fail
  refine (isa19 (.iface 150 v) true (fun w => run_typeAssert_hasB Tryz.underlying20 (by kernel_rfl) v 20 w) _).mono ?_
  rintro e w' ⟨rfl, rfl⟩
  go_wp2_with fail
  go_ret
  exact ⟨rfl, rfl⟩
set_option maxRecDepth 100000 in
theorem held18 (v : Value) (w : World) : Calls Tryz.prog 29 #[.iface 152 v] w fun e w' => e = .returned (.int .u32 524418) ∧ w = w' := by
  go_enter Tryz.func29, Tryz.ntmps29
  go_wp2_with fail
  refine (isa1 (.iface 152 v) true (fun w => run_typeAssert_hasB Tryz.underlying70 (by kernel_rfl) v 20 w) _).mono ?_
  rintro e w' ⟨rfl, rfl⟩
  go_wp2_with fail
  refine (isa2 (.iface 152 v) false (fun w => run_typeAssert_lacksB Tryz.underlying90 (by kernel_rfl) (by kernel_rfl) v 20 w) _).mono ?_
  rintro e w' ⟨rfl, rfl⟩
  go_wp2_with fail
  refine (isa3 (.iface 152 v) false (fun w => run_typeAssert_lacksB Tryz.underlying92 (by kernel_rfl) (by kernel_rfl) v 20 w) _).mono ?_
  rintro e w' ⟨rfl, rfl⟩
  go_wp2_with fail
  refine (isa4 (.iface 152 v) false (fun w => run_typeAssert_lacksB Tryz.underlying94 (by kernel_rfl) (by kernel_rfl) v 20 w) _).mono ?_
  rintro e w' ⟨rfl, rfl⟩
  go_wp2_with fail
  refine (isa5 (.iface 152 v) false (fun w => run_typeAssert_lacksB Tryz.underlying96 (by kernel_rfl) (by kernel_rfl) v 20 w) _).mono ?_
  rintro e w' ⟨rfl, rfl⟩
  go_wp2_with fail
  refine (isa6 (.iface 152 v) false (fun w => run_typeAssert_lacksB Tryz.underlying98 (by kernel_rfl) (by kernel_rfl) v 20 w) _).mono ?_
  rintro e w' ⟨rfl, rfl⟩
  go_wp2_with fail
  refine (isa7 (.iface 152 v) true (fun w => run_typeAssert_hasB Tryz.underlying100 (by kernel_rfl) v 20 w) _).mono ?_
  rintro e w' ⟨rfl, rfl⟩
  go_wp2_with fail
  refine (isa8 (.iface 152 v) false (fun w => run_typeAssert_lacksB Tryz.underlying102 (by kernel_rfl) (by kernel_rfl) v 20 w) _).mono ?_
  rintro e w' ⟨rfl, rfl⟩
  go_wp2_with fail
  refine (isa9 (.iface 152 v) false (fun w => run_typeAssert_lacksB Tryz.underlying104 (by kernel_rfl) (by kernel_rfl) v 20 w) _).mono ?_
  rintro e w' ⟨rfl, rfl⟩
  go_wp2_with fail
  refine (isa10 (.iface 152 v) false (fun w => run_typeAssert_lacksB Tryz.underlying106 (by kernel_rfl) (by kernel_rfl) v 20 w) _).mono ?_
  rintro e w' ⟨rfl, rfl⟩
  go_wp2_with fail
  refine (isa11 (.iface 152 v) false (fun w => run_typeAssert_lacksB Tryz.underlying108 (by kernel_rfl) (by kernel_rfl) v 20 w) _).mono ?_
  rintro e w' ⟨rfl, rfl⟩
  go_wp2_with fail
  refine (isa12 (.iface 152 v) false (fun w => run_typeAssert_lacksB Tryz.underlying110 (by kernel_rfl) (by kernel_rfl) v 20 w) _).mono ?_
  rintro e w' ⟨rfl, rfl⟩
  go_wp2_with fail
  refine (isa13 (.iface 152 v) false (fun w => run_typeAssert_lacksB Tryz.underlying112 (by kernel_rfl) (by kernel_rfl) v 20 w) _).mono ?_
  rintro e w' ⟨rfl, rfl⟩
  go_wp2_with fail
  refine (isa14 (.iface 152 v) false (fun w => run_typeAssert_lacksB Tryz.underlying114 (by kernel_rfl) (by kernel_rfl) v 20 w) _).mono ?_
  rintro e w' ⟨rfl, rfl⟩
  go_wp2_with fail
  refine (isa15 (.iface 152 v) false (fun w => run_typeAssert_lacksB Tryz.underlying116 (by kernel_rfl) (by kernel_rfl) v 20 w) _).mono ?_
  rintro e w' ⟨rfl, rfl⟩
  go_wp2_with fail
  refine (isa16 (.iface 152 v) false (fun w => run_typeAssert_lacksB Tryz.underlying118 (by kernel_rfl) (by kernel_rfl) v 20 w) _).mono ?_
  rintro e w' ⟨rfl, rfl⟩
  go_wp2_with fail
  refine (isa17 (.iface 152 v) false (fun w => run_typeAssert_lacksB Tryz.underlying120 (by kernel_rfl) (by kernel_rfl) v 20 w) _).mono ?_
  rintro e w' ⟨rfl, rfl⟩
  go_wp2_with fail
  refine (isa18 (.iface 152 v) false (fun w => run_typeAssert_lacksB Tryz.underlying122 (by kernel_rfl) (by kernel_rfl) v 20 w) _).mono ?_
  rintro e w' ⟨rfl, rfl⟩
  go_wp2_with fail
  refine (isa19 (.iface 152 v) true (fun w => run_typeAssert_hasB Tryz.underlying20 (by kernel_rfl) v 20 w) _).mono ?_
  rintro e w' ⟨rfl, rfl⟩
  go_wp2_with fail
  go_ret
  exact ⟨rfl, rfl⟩
set_option maxRecDepth 100000 in
theorem held19 (v : Value) (w : World) : Calls Tryz.prog 29 #[.iface 154 v] w fun e w' => e = .returned (.int .u32 524310) ∧ w = w' := by
  go_enter Tryz.func29, Tryz.ntmps29
  go_wp2_with fail
  refine (isa1 (.iface 154 v) true (fun w => run_typeAssert_hasB Tryz.underlying70 (by kernel_rfl) v 20 w) _).mono ?_
  rintro e w' ⟨rfl, rfl⟩
  go_wp2_with fail
  refine (isa2 (.iface 154 v) true (fun w => run_typeAssert_hasB Tryz.underlying90 (by kernel_rfl) v 20 w) _).mono ?_
  rintro e w' ⟨rfl, rfl⟩
  go_wp2_with fail
  refine (isa3 (.iface 154 v) false (fun w => run_typeAssert_lacksB Tryz.underlying92 (by kernel_rfl) (by kernel_rfl) v 20 w) _).mono ?_
  rintro e w' ⟨rfl, rfl⟩
  go_wp2_with fail
  refine (isa4 (.iface 154 v) true (fun w => run_typeAssert_hasB Tryz.underlying94 (by kernel_rfl) v 20 w) _).mono ?_
  rintro e w' ⟨rfl, rfl⟩
  go_wp2_with fail
  refine (isa5 (.iface 154 v) false (fun w => run_typeAssert_lacksB Tryz.underlying96 (by kernel_rfl) (by kernel_rfl) v 20 w) _).mono ?_
  rintro e w' ⟨rfl, rfl⟩
  go_wp2_with fail
  refine (isa6 (.iface 154 v) false (fun w => run_typeAssert_lacksB Tryz.underlying98 (by kernel_rfl) (by kernel_rfl) v 20 w) _).mono ?_
  rintro e w' ⟨rfl, rfl⟩
  go_wp2_with fail
  refine (isa7 (.iface 154 v) false (fun w => run_typeAssert_lacksB Tryz.underlying100 (by kernel_rfl) (by kernel_rfl) v 20 w) _).mono ?_
  rintro e w' ⟨rfl, rfl⟩
  go_wp2_with fail
  refine (isa8 (.iface 154 v) false (fun w => run_typeAssert_lacksB Tryz.underlying102 (by kernel_rfl) (by kernel_rfl) v 20 w) _).mono ?_
  rintro e w' ⟨rfl, rfl⟩
  go_wp2_with fail
  refine (isa9 (.iface 154 v) false (fun w => run_typeAssert_lacksB Tryz.underlying104 (by kernel_rfl) (by kernel_rfl) v 20 w) _).mono ?_
  rintro e w' ⟨rfl, rfl⟩
  go_wp2_with fail
  refine (isa10 (.iface 154 v) false (fun w => run_typeAssert_lacksB Tryz.underlying106 (by kernel_rfl) (by kernel_rfl) v 20 w) _).mono ?_
  rintro e w' ⟨rfl, rfl⟩
  go_wp2_with fail
  refine (isa11 (.iface 154 v) false (fun w => run_typeAssert_lacksB Tryz.underlying108 (by kernel_rfl) (by kernel_rfl) v 20 w) _).mono ?_
  rintro e w' ⟨rfl, rfl⟩
  go_wp2_with fail
  refine (isa12 (.iface 154 v) false (fun w => run_typeAssert_lacksB Tryz.underlying110 (by kernel_rfl) (by kernel_rfl) v 20 w) _).mono ?_
  rintro e w' ⟨rfl, rfl⟩
  go_wp2_with fail
  refine (isa13 (.iface 154 v) false (fun w => run_typeAssert_lacksB Tryz.underlying112 (by kernel_rfl) (by kernel_rfl) v 20 w) _).mono ?_
  rintro e w' ⟨rfl, rfl⟩
  go_wp2_with fail
  refine (isa14 (.iface 154 v) false (fun w => run_typeAssert_lacksB Tryz.underlying114 (by kernel_rfl) (by kernel_rfl) v 20 w) _).mono ?_
  rintro e w' ⟨rfl, rfl⟩
  go_wp2_with fail
  refine (isa15 (.iface 154 v) false (fun w => run_typeAssert_lacksB Tryz.underlying116 (by kernel_rfl) (by kernel_rfl) v 20 w) _).mono ?_
  rintro e w' ⟨rfl, rfl⟩
  go_wp2_with fail
  refine (isa16 (.iface 154 v) false (fun w => run_typeAssert_lacksB Tryz.underlying118 (by kernel_rfl) (by kernel_rfl) v 20 w) _).mono ?_
  rintro e w' ⟨rfl, rfl⟩
  go_wp2_with fail
  refine (isa17 (.iface 154 v) false (fun w => run_typeAssert_lacksB Tryz.underlying120 (by kernel_rfl) (by kernel_rfl) v 20 w) _).mono ?_
  rintro e w' ⟨rfl, rfl⟩
  go_wp2_with fail
  refine (isa18 (.iface 154 v) false (fun w => run_typeAssert_lacksB Tryz.underlying122 (by kernel_rfl) (by kernel_rfl) v 20 w) _).mono ?_
  rintro e w' ⟨rfl, rfl⟩
  go_wp2_with fail
  refine (isa19 (.iface 154 v) true (fun w => run_typeAssert_hasB Tryz.underlying20 (by kernel_rfl) v 20 w) _).mono ?_
  rintro e w' ⟨rfl, rfl⟩
  go_wp2_with fail
  go_ret
  exact ⟨rfl, rfl⟩
set_option maxRecDepth 100000 in
theorem held20 (v : Value) (w : World) : Calls Tryz.prog 29 #[.iface 156 v] w fun e w' => e = .returned (.int .u32 524290) ∧ w = w' := by
  go_enter Tryz.func29, Tryz.ntmps29
  go_wp2_with fail
  refine (isa1 (.iface 156 v) true (fun w => run_typeAssert_hasB Tryz.underlying70 (by kernel_rfl) v 20 w) _).mono ?_
  rintro e w' ⟨rfl, rfl⟩
  go_wp2_with fail
  refine (isa2 (.iface 156 v) false (fun w => run_typeAssert_lacksB Tryz.underlying90 (by kernel_rfl) (by kernel_rfl) v 20 w) _).mono ?_
  rintro e w' ⟨rfl, rfl⟩
  go_wp2_with fail
  refine (isa3 (.iface 156 v) false (fun w => run_typeAssert_lacksB Tryz.underlying92 (by kernel_rfl) (by kernel_rfl) v 20 w) _).mono ?_
  rintro e w' ⟨rfl, rfl⟩
  go_wp2_with fail
  refine (isa4 (.iface 156 v) false (fun w => run_typeAssert_lacksB Tryz.underlying94 (by kernel_rfl) (by kernel_rfl) v 20 w) _).mono ?_
  rintro e w' ⟨rfl, rfl⟩
  go_wp2_with fail
  refine (isa5 (.iface 156 v) false (fun w => run_typeAssert_lacksB Tryz.underlying96 (by kernel_rfl) (by kernel_rfl) v 20 w) _).mono ?_
  rintro e w' ⟨rfl, rfl⟩
  go_wp2_with fail
  refine (isa6 (.iface 156 v) false (fun w => run_typeAssert_lacksB Tryz.underlying98 (by kernel_rfl) (by kernel_rfl) v 20 w) _).mono ?_
  rintro e w' ⟨rfl, rfl⟩
  go_wp2_with fail
  refine (isa7 (.iface 156 v) false (fun w => run_typeAssert_lacksB Tryz.underlying100 (by kernel_rfl) (by kernel_rfl) v 20 w) _).mono ?_
  rintro e w' ⟨rfl, rfl⟩
  go_wp2_with fail
  refine (isa8 (.iface 156 v) false (fun w => run_typeAssert_lacksB Tryz.underlying102 (by kernel_rfl) (by kernel_rfl) v 20 w) _).mono ?_
  rintro e w' ⟨rfl, rfl⟩
  go_wp2_with fail
  refine (isa9 (.iface 156 v) false (fun w => run_typeAssert_lacksB Tryz.underlying104 (by kernel_rfl) (by kernel_rfl) v 20 w) _).mono ?_
  rintro e w' ⟨rfl, rfl⟩
  go_wp2_with fail
  refine (isa10 (.iface 156 v) false (fun w => run_typeAssert_lacksB Tryz.underlying106 (by kernel_rfl) (by kernel_rfl) v 20 w) _).mono ?_
  rintro e w' ⟨rfl, rfl⟩
  go_wp2_with fail
  refine (isa11 (.iface 156 v) false (fun w => run_typeAssert_lacksB Tryz.underlying108 (by kernel_rfl) (by kernel_rfl) v 20 w) _).mono ?_
  rintro e w' ⟨rfl, rfl⟩
  go_wp2_with fail
  refine (isa12 (.iface 156 v) false (fun w => run_typeAssert_lacksB Tryz.underlying110 (by kernel_rfl) (by kernel_rfl) v 20 w) _).mono ?_
  rintro e w' ⟨rfl, rfl⟩
  go_wp2_with fail
  refine (isa13 (.iface 156 v) false (fun w => run_typeAssert_lacksB Tryz.underlying112 (by kernel_rfl) (by kernel_rfl) v 20 w) _).mono ?_
  rintro e w' ⟨rfl, rfl⟩
  go_wp2_with fail
  refine (isa14 (.iface 156 v) false (fun w => run_typeAssert_lacksB Tryz.underlying114 (by kernel_rfl) (by kernel_rfl) v 20 w) _).mono ?_
  rintro e w' ⟨rfl, rfl⟩
  go_wp2_with fail
  refine (isa15 (.iface 156 v) false (fun w => run_typeAssert_lacksB Tryz.underlying116 (by kernel_rfl) (by kernel_rfl) v 20 w) _).mono ?_
  rintro e w' ⟨rfl, rfl⟩
  go_wp2_with fail
  refine (isa16 (.iface 156 v) false (fun w => run_typeAssert_lacksB Tryz.underlying118 (by kernel_rfl) (by kernel_rfl) v 20 w) _).mono ?_
  rintro e w' ⟨rfl, rfl⟩
  go_wp2_with fail
  refine (isa17 (.iface 156 v) false (fun w => run_typeAssert_lacksB Tryz.underlying120 (by kernel_rfl) (by kernel_rfl) v 20 w) _).mono ?_
  rintro e w' ⟨rfl, rfl⟩
  go_wp2_with fail
  refine (isa18 (.iface 156 v) false (fun w => run_typeAssert_lacksB Tryz.underlying122 (by kernel_rfl) (by kernel_rfl) v 20 w) _).mono ?_
  rintro e w' ⟨rfl, rfl⟩
  go_wp2_with fail
  refine (isa19 (.iface 156 v) true (fun w => run_typeAssert_hasB Tryz.underlying20 (by kernel_rfl) v 20 w) _).mono ?_
  rintro e w' ⟨rfl, rfl⟩
  go_wp2_with fail
  go_ret
  exact ⟨rfl, rfl⟩
set_option maxRecDepth 100000 in
theorem held21 (v : Value) (w : World) : Calls Tryz.prog 29 #[.iface 157 v] w fun e w' => e = .returned (.int .u32 526338) ∧ w = w' := by
  go_enter Tryz.func29, Tryz.ntmps29
  go_wp2_with fail
  refine (isa1 (.iface 157 v) true (fun w => run_typeAssert_hasB Tryz.underlying70 (by kernel_rfl) v 20 w) _).mono ?_
  rintro e w' ⟨rfl, rfl⟩
  go_wp2_with fail
  refine (isa2 (.iface 157 v) false (fun w => run_typeAssert_lacksB Tryz.underlying90 (by kernel_rfl) (by kernel_rfl) v 20 w) _).mono ?_
  rintro e w' ⟨rfl, rfl⟩
  go_wp2_with fail
  refine (isa3 (.iface 157 v) false (fun w => run_typeAssert_lacksB Tryz.underlying92 (by kernel_rfl) (by kernel_rfl) v 20 w) _).mono ?_
  rintro e w' ⟨rfl, rfl⟩
  go_wp2_with fail
  refine (isa4 (.iface 157 v) false (fun w => run_typeAssert_lacksB Tryz.underlying94 (by kernel_rfl) (by kernel_rfl) v 20 w) _).mono ?_
  rintro e w' ⟨rfl, rfl⟩
  go_wp2_with fail
  refine (isa5 (.iface 157 v) false (fun w => run_typeAssert_lacksB Tryz.underlying96 (by kernel_rfl) (by kernel_rfl) v 20 w) _).mono ?_
  rintro e w' ⟨rfl, rfl⟩
  go_wp2_with fail
  refine (isa6 (.iface 157 v) false (fun w => run_typeAssert_lacksB Tryz.underlying98 (by kernel_rfl) (by kernel_rfl) v 20 w) _).mono ?_
  rintro e w' ⟨rfl, rfl⟩
  go_wp2_with fail
  refine (isa7 (.iface 157 v) false (fun w => run_typeAssert_lacksB Tryz.underlying100 (by kernel_rfl) (by kernel_rfl) v 20 w) _).mono ?_
  rintro e w' ⟨rfl, rfl⟩
  go_wp2_with fail
  refine (isa8 (.iface 157 v) false (fun w => run_typeAssert_lacksB Tryz.underlying102 (by kernel_rfl) (by kernel_rfl) v 20 w) _).mono ?_
  rintro e w' ⟨rfl, rfl⟩
  go_wp2_with fail
  refine (isa9 (.iface 157 v) false (fun w => run_typeAssert_lacksB Tryz.underlying104 (by kernel_rfl) (by kernel_rfl) v 20 w) _).mono ?_
  rintro e w' ⟨rfl, rfl⟩
  go_wp2_with fail
  refine (isa10 (.iface 157 v) false (fun w => run_typeAssert_lacksB Tryz.underlying106 (by kernel_rfl) (by kernel_rfl) v 20 w) _).mono ?_
  rintro e w' ⟨rfl, rfl⟩
  go_wp2_with fail
  refine (isa11 (.iface 157 v) true (fun w => run_typeAssert_hasB Tryz.underlying108 (by kernel_rfl) v 20 w) _).mono ?_
  rintro e w' ⟨rfl, rfl⟩
  go_wp2_with fail
  refine (isa12 (.iface 157 v) false (fun w => run_typeAssert_lacksB Tryz.underlying110 (by kernel_rfl) (by kernel_rfl) v 20 w) _).mono ?_
  rintro e w' ⟨rfl, rfl⟩
  go_wp2_with fail
  refine (isa13 (.iface 157 v) false (fun w => run_typeAssert_lacksB Tryz.underlying112 (by kernel_rfl) (by kernel_rfl) v 20 w) _).mono ?_
  rintro e w' ⟨rfl, rfl⟩
  go_wp2_with fail
  refine (isa14 (.iface 157 v) false (fun w => run_typeAssert_lacksB Tryz.underlying114 (by kernel_rfl) (by kernel_rfl) v 20 w) _).mono ?_
  rintro e w' ⟨rfl, rfl⟩
  go_wp2_with fail
  refine (isa15 (.iface 157 v) false (fun w => run_typeAssert_lacksB Tryz.underlying116 (by kernel_rfl) (by kernel_rfl) v 20 w) _).mono ?_
  rintro e w' ⟨rfl, rfl⟩
  go_wp2_with fail
  refine (isa16 (.iface 157 v) false (fun w => run_typeAssert_lacksB Tryz.underlying118 (by kernel_rfl) (by kernel_rfl) v 20 w) _).mono ?_
  rintro e w' ⟨rfl, rfl⟩
  go_wp2_with fail
  refine (isa17 (.iface 157 v) false (fun w => run_typeAssert_lacksB Tryz.underlying120 (by kernel_rfl) (by kernel_rfl) v 20 w) _).mono ?_
  rintro e w' ⟨rfl, rfl⟩
  go_wp2_with fail
  refine (isa18 (.iface 157 v) false (fun w => run_typeAssert_lacksB Tryz.underlying122 (by kernel_rfl) (by kernel_rfl) v 20 w) _).mono ?_
  rintro e w' ⟨rfl, rfl⟩
  go_wp2_with fail
  refine (isa19 (.iface 157 v) true (fun w => run_typeAssert_hasB Tryz.underlying20 (by kernel_rfl) v 20 w) _).mono ?_
  rintro e w' ⟨rfl, rfl⟩
  go_wp2_with fail
  go_ret
  exact ⟨rfl, rfl⟩
set_option maxRecDepth 100000 in
theorem held22 (v : Value) (w : World) : Calls Tryz.prog 29 #[.iface 158 v] w fun e w' => e = .returned (.int .u32 528386) ∧ w = w' := by
  go_enter Tryz.func29, Tryz.ntmps29
  go_wp2_with fail
  refine (isa1 (.iface 158 v) true (fun w => run_typeAssert_hasB Tryz.underlying70 (by kernel_rfl) v 20 w) _).mono ?_
  rintro e w' ⟨rfl, rfl⟩
  go_wp2_with fail
  refine (isa2 (.iface 158 v) false (fun w => run_typeAssert_lacksB Tryz.underlying90 (by kernel_rfl) (by kernel_rfl) v 20 w) _).mono ?_
  rintro e w' ⟨rfl, rfl⟩
  go_wp2_with fail
  refine (isa3 (.iface 158 v) false (fun w => run_typeAssert_lacksB Tryz.underlying92 (by kernel_rfl) (by kernel_rfl) v 20 w) _).mono ?_
  rintro e w' ⟨rfl, rfl⟩
  go_wp2_with fail
  refine (isa4 (.iface 158 v) false (fun w => run_typeAssert_lacksB Tryz.underlying94 (by kernel_rfl) (by kernel_rfl) v 20 w) _).mono ?_
  rintro e w' ⟨rfl, rfl⟩
  go_wp2_with fail
  refine (isa5 (.iface 158 v) false (fun w => run_typeAssert_lacksB Tryz.underlying96 (by kernel_rfl) (by kernel_rfl) v 20 w) _).mono ?_
  rintro e w' ⟨rfl, rfl⟩
  go_wp2_with fail
  refine (isa6 (.iface 158 v) false (fun w => run_typeAssert_lacksB Tryz.underlying98 (by kernel_rfl) (by kernel_rfl) v 20 w) _).mono ?_
  rintro e w' ⟨rfl, rfl⟩
  go_wp2_with fail
  refine (isa7 (.iface 158 v) false (fun w => run_typeAssert_lacksB Tryz.underlying100 (by kernel_rfl) (by kernel_rfl) v 20 w) _).mono ?_
  rintro e w' ⟨rfl, rfl⟩
  go_wp2_with fail
  refine (isa8 (.iface 158 v) false (fun w => run_typeAssert_lacksB Tryz.underlying102 (by kernel_rfl) (by kernel_rfl) v 20 w) _).mono ?_
  rintro e w' ⟨rfl, rfl⟩
  go_wp2_with fail
  refine (isa9 (.iface 158 v) false (fun w => run_typeAssert_lacksB Tryz.underlying104 (by kernel_rfl) (by kernel_rfl) v 20 w) _).mono ?_
  rintro e w' ⟨rfl, rfl⟩
  go_wp2_with fail
  refine (isa10 (.iface 158 v) false (fun w => run_typeAssert_lacksB Tryz.underlying106 (by kernel_rfl) (by kernel_rfl) v 20 w) _).mono ?_
  rintro e w' ⟨rfl, rfl⟩
  go_wp2_with fail
  refine (isa11 (.iface 158 v) false (fun w => run_typeAssert_lacksB Tryz.underlying108 (by kernel_rfl) (by kernel_rfl) v 20 w) _).mono ?_
  rintro e w' ⟨rfl, rfl⟩
  go_wp2_with fail
  refine (isa12 (.iface 158 v) true (fun w => run_typeAssert_hasB Tryz.underlying110 (by kernel_rfl) v 20 w) _).mono ?_
  rintro e w' ⟨rfl, rfl⟩
  go_wp2_with fail
  refine (isa13 (.iface 158 v) false (fun w => run_typeAssert_lacksB Tryz.underlying112 (by kernel_rfl) (by kernel_rfl) v 20 w) _).mono ?_
  rintro e w' ⟨rfl, rfl⟩
  go_wp2_with fail
  refine (isa14 (.iface 158 v) false (fun w => run_typeAssert_lacksB Tryz.underlying114 (by kernel_rfl) (by kernel_rfl) v 20 w) _).mono ?_
  rintro e w' ⟨rfl, rfl⟩
  go_wp2_with fail
  refine (isa15 (.iface 158 v) false (fun w => run_typeAssert_lacksB Tryz.underlying116 (by kernel_rfl) (by kernel_rfl) v 20 w) _).mono ?_
  rintro e w' ⟨rfl, rfl⟩
  go_wp2_with fail
  refine (isa16 (.iface 158 v) false (fun w => run_typeAssert_lacksB Tryz.underlying118 (by kernel_rfl) (by kernel_rfl) v 20 w) _).mono ?_
  rintro e w' ⟨rfl, rfl⟩
  go_wp2_with fail
  refine (isa17 (.iface 158 v) false (fun w => run_typeAssert_lacksB Tryz.underlying120 (by kernel_rfl) (by kernel_rfl) v 20 w) _).mono ?_
  rintro e w' ⟨rfl, rfl⟩
  go_wp2_with fail
  refine (isa18 (.iface 158 v) false (fun w => run_typeAssert_lacksB Tryz.underlying122 (by kernel_rfl) (by kernel_rfl) v 20 w) _).mono ?_
  rintro e w' ⟨rfl, rfl⟩
  go_wp2_with fail
  refine (isa19 (.iface 158 v) true (fun w => run_typeAssert_hasB Tryz.underlying20 (by kernel_rfl) v 20 w) _).mono ?_
  rintro e w' ⟨rfl, rfl⟩
  go_wp2_with fail
  go_ret
  exact ⟨rfl, rfl⟩
set_option maxRecDepth 100000 in
theorem held23 (v : Value) (w : World) : Calls Tryz.prog 29 #[.iface 160 v] w fun e w' => e = .returned (.int .u32 524290) ∧ w = w' := by
  go_enter Tryz.func29, Tryz.ntmps29
  go_wp2_with fail
  refine (isa1 (.iface 160 v) true (fun w => run_typeAssert_hasB Tryz.underlying70 (by kernel_rfl) v 20 w) _).mono ?_
  rintro e w' ⟨rfl, rfl⟩
  go_wp2_with fail
  refine (isa2 (.iface 160 v) false (fun w => run_typeAssert_lacksB Tryz.underlying90 (by kernel_rfl) (by kernel_rfl) v 20 w) _).mono ?_
  rintro e w' ⟨rfl, rfl⟩
  go_wp2_with fail
  refine (isa3 (.iface 160 v) false (fun w => run_typeAssert_lacksB Tryz.underlying92 (by kernel_rfl) (by kernel_rfl) v 20 w) _).mono ?_
  rintro e w' ⟨rfl, rfl⟩
  go_wp2_with fail
  refine (isa4 (.iface 160 v) false (fun w => run_typeAssert_lacksB Tryz.underlying94 (by kernel_rfl) (by kernel_rfl) v 20 w) _).mono ?_
  rintro e w' ⟨rfl, rfl⟩
  go_wp2_with fail
  refine (isa5 (.iface 160 v) false (fun w => run_typeAssert_lacksB Tryz.underlying96 (by kernel_rfl) (by kernel_rfl) v 20 w) _).mono ?_
  rintro e w' ⟨rfl, rfl⟩
  go_wp2_with fail
  refine (isa6 (.iface 160 v) false (fun w => run_typeAssert_lacksB Tryz.underlying98 (by kernel_rfl) (by kernel_rfl) v 20 w) _).mono ?_
  rintro e w' ⟨rfl, rfl⟩
  go_wp2_with fail
  refine (isa7 (.iface 160 v) false (fun w => run_typeAssert_lacksB Tryz.underlying100 (by kernel_rfl) (by kernel_rfl) v 20 w) _).mono ?_
  rintro e w' ⟨rfl, rfl⟩
  go_wp2_with fail
  refine (isa8 (.iface 160 v) false (fun w => run_typeAssert_lacksB Tryz.underlying102 (by kernel_rfl) (by kernel_rfl) v 20 w) _).mono ?_
  rintro e w' ⟨rfl, rfl⟩
  go_wp2_with fail
  refine (isa9 (.iface 160 v) false (fun w => run_typeAssert_lacksB Tryz.underlying104 (by kernel_rfl) (by kernel_rfl) v 20 w) _).mono ?_
  rintro e w' ⟨rfl, rfl⟩
  go_wp2_with fail
  refine (isa10 (.iface 160 v) false (fun w => run_typeAssert_lacksB Tryz.underlying106 (by kernel_rfl) (by kernel_rfl) v 20 w) _).mono ?_
  rintro e w' ⟨rfl, rfl⟩
  go_wp2_with fail
  refine (isa11 (.iface 160 v) false (fun w => run_typeAssert_lacksB Tryz.underlying108 (by kernel_rfl) (by kernel_rfl) v 20 w) _).mono ?_
  rintro e w' ⟨rfl, rfl⟩
  go_wp2_with fail
  refine (isa12 (.iface 160 v) false (fun w => run_typeAssert_lacksB Tryz.underlying110 (by kernel_rfl) (by kernel_rfl) v 20 w) _).mono ?_
  rintro e w' ⟨rfl, rfl⟩
  go_wp2_with fail
  refine (isa13 (.iface 160 v) false (fun w => run_typeAssert_lacksB Tryz.underlying112 (by kernel_rfl) (by kernel_rfl) v 20 w) _).mono ?_
  rintro e w' ⟨rfl, rfl⟩
  go_wp2_with fail
  refine (isa14 (.iface 160 v) false (fun w => run_typeAssert_lacksB Tryz.underlying114 (by kernel_rfl) (by kernel_rfl) v 20 w) _).mono ?_
  rintro e w' ⟨rfl, rfl⟩
  go_wp2_with fail
  refine (isa15 (.iface 160 v) false (fun w => run_typeAssert_lacksB Tryz.underlying116 (by kernel_rfl) (by kernel_rfl) v 20 w) _).mono ?_
  rintro e w' ⟨rfl, rfl⟩
  go_wp2_with fail
  refine (isa16 (.iface 160 v) false (fun w => run_typeAssert_lacksB Tryz.underlying118 (by kernel_rfl) (by kernel_rfl) v 20 w) _).mono ?_
  rintro e w' ⟨rfl, rfl⟩
  go_wp2_with fail
  refine (isa17 (.iface 160 v) false (fun w => run_typeAssert_lacksB Tryz.underlying120 (by kernel_rfl) (by kernel_rfl) v 20 w) _).mono ?_
  rintro e w' ⟨rfl, rfl⟩
  go_wp2_with fail
  refine (isa18 (.iface 160 v) false (fun w => run_typeAssert_lacksB Tryz.underlying122 (by kernel_rfl) (by kernel_rfl) v 20 w) _).mono ?_
  rintro e w' ⟨rfl, rfl⟩
  go_wp2_with fail
  refine (isa19 (.iface 160 v) true (fun w => run_typeAssert_hasB Tryz.underlying20 (by kernel_rfl) v 20 w) _).mono ?_
  rintro e w' ⟨rfl, rfl⟩
  go_wp2_with fail
  go_ret
  exact ⟨rfl, rfl⟩
set_option maxRecDepth 100000 in
theorem held24 (v : Value) (w : World) : Calls Tryz.prog 29 #[.iface 161 v] w fun e w' => e = .returned (.int .u32 524290) ∧ w = w' := by
  go_enter Tryz.func29, Tryz.ntmps29
  go_wp2_with fail
  refine (isa1 (.iface 161 v) true (fun w => run_typeAssert_hasB Tryz.underlying70 (by kernel_rfl) v 20 w) _).mono ?_
  rintro e w' ⟨rfl, rfl⟩
  go_wp2_with fail
  refine (isa2 (.iface 161 v) false (fun w => run_typeAssert_lacksB Tryz.underlying90 (by kernel_rfl) (by kernel_rfl) v 20 w) _).mono ?_
  rintro e w' ⟨rfl, rfl⟩
  go_wp2_with fail
  refine (isa3 (.iface 161 v) false (fun w => run_typeAssert_lacksB Tryz.underlying92 (by kernel_rfl) (by kernel_rfl) v 20 w) _).mono ?_
  rintro e w' ⟨rfl, rfl⟩
  go_wp2_with fail
  refine (isa4 (.iface 161 v) false (fun w => run_typeAssert_lacksB Tryz.underlying94 (by kernel_rfl) (by kernel_rfl) v 20 w) _).mono ?_
  rintro e w' ⟨rfl, rfl⟩
  go_wp2_with fail
  refine (isa5 (.iface 161 v) false (fun w => run_typeAssert_lacksB Tryz.underlying96 (by kernel_rfl) (by kernel_rfl) v 20 w) _).mono ?_
  rintro e w' ⟨rfl, rfl⟩
  go_wp2_with fail
  refine (isa6 (.iface 161 v) false (fun w => run_typeAssert_lacksB Tryz.underlying98 (by kernel_rfl) (by kernel_rfl) v 20 w) _).mono ?_
  rintro e w' ⟨rfl, rfl⟩
  go_wp2_with fail
  refine (isa7 (.iface 161 v) false (fun w => run_typeAssert_lacksB Tryz.underlying100 (by kernel_rfl) (by kernel_rfl) v 20 w) _).mono ?_
  rintro e w' ⟨rfl, rfl⟩
  go_wp2_with fail
  refine (isa8 (.iface 161 v) false (fun w => run_typeAssert_lacksB Tryz.underlying102 (by kernel_rfl) (by kernel_rfl) v 20 w) _).mono ?_
  rintro e w' ⟨rfl, rfl⟩
  go_wp2_with fail
  refine (isa9 (.iface 161 v) false (fun w => run_typeAssert_lacksB Tryz.underlying104 (by kernel_rfl) (by kernel_rfl) v 20 w) _).mono ?_
  rintro e w' ⟨rfl, rfl⟩
  go_wp2_with fail
  refine (isa10 (.iface 161 v) false (fun w => run_typeAssert_lacksB Tryz.underlying106 (by kernel_rfl) (by kernel_rfl) v 20 w) _).mono ?_
  rintro e w' ⟨rfl, rfl⟩
  go_wp2_with fail
  refine (isa11 (.iface 161 v) false (fun w => run_typeAssert_lacksB Tryz.underlying108 (by kernel_rfl) (by kernel_rfl) v 20 w) _).mono ?_
  rintro e w' ⟨rfl, rfl⟩
  go_wp2_with fail
  refine (isa12 (.iface 161 v) false (fun w => run_typeAssert_lacksB Tryz.underlying110 (by kernel_rfl) (by kernel_rfl) v 20 w) _).mono ?_
  rintro e w' ⟨rfl, rfl⟩
  go_wp2_with fail
  refine (isa13 (.iface 161 v) false (fun w => run_typeAssert_lacksB Tryz.underlying112 (by kernel_rfl) (by kernel_rfl) v 20 w) _).mono ?_
  rintro e w' ⟨rfl, rfl⟩
  go_wp2_with fail
  refine (isa14 (.iface 161 v) false (fun w => run_typeAssert_lacksB Tryz.underlying114 (by kernel_rfl) (by kernel_rfl) v 20 w) _).mono ?_
  rintro e w' ⟨rfl, rfl⟩
  go_wp2_with fail
  refine (isa15 (.iface 161 v) false (fun w => run_typeAssert_lacksB Tryz.underlying116 (by kernel_rfl) (by kernel_rfl) v 20 w) _).mono ?_
  rintro e w' ⟨rfl, rfl⟩
  go_wp2_with fail
  refine (isa16 (.iface 161 v) false (fun w => run_typeAssert_lacksB Tryz.underlying118 (by kernel_rfl) (by kernel_rfl) v 20 w) _).mono ?_
  rintro e w' ⟨rfl, rfl⟩
  go_wp2_with fail
  refine (isa17 (.iface 161 v) false (fun w => run_typeAssert_lacksB Tryz.underlying120 (by kernel_rfl) (by kernel_rfl) v 20 w) _).mono ?_
  rintro e w' ⟨rfl, rfl⟩
  go_wp2_with fail
  refine (isa18 (.iface 161 v) false (fun w => run_typeAssert_lacksB Tryz.underlying122 (by kernel_rfl) (by kernel_rfl) v 20 w) _).mono ?_
  rintro e w' ⟨rfl, rfl⟩
  go_wp2_with fail
  refine (isa19 (.iface 161 v) true (fun w => run_typeAssert_hasB Tryz.underlying20 (by kernel_rfl) v 20 w) _).mono ?_
  rintro e w' ⟨rfl, rfl⟩
  go_wp2_with fail
  go_ret
  exact ⟨rfl, rfl⟩
set_option maxRecDepth 100000 in
theorem held25 (v : Value) (w : World) : Calls Tryz.prog 29 #[.iface 163 v] w fun e w' => e = .returned (.int .u32 590350) ∧ w = w' := by
  go_enter Tryz.func29, Tryz.ntmps29
  go_wp2_with fail
  refine (isa1 (.iface 163 v) true (fun w => run_typeAssert_hasB Tryz.underlying70 (by kernel_rfl) v 20 w) _).mono ?_
  rintro e w' ⟨rfl, rfl⟩
  go_wp2_with fail
  refine (isa2 (.iface 163 v) true (fun w => run_typeAssert_hasB Tryz.underlying90 (by kernel_rfl) v 20 w) _).mono ?_
  rintro e w' ⟨rfl, rfl⟩
  go_wp2_with fail
  refine (isa3 (.iface 163 v) true (fun w => run_typeAssert_hasB Tryz.underlying92 (by kernel_rfl) v 20 w) _).mono ?_
  rintro e w' ⟨rfl, rfl⟩
  go_wp2_with fail
  refine (isa4 (.iface 163 v) false (fun w => run_typeAssert_lacksB Tryz.underlying94 (by kernel_rfl) (by kernel_rfl) v 20 w) _).mono ?_
  rintro e w' ⟨rfl, rfl⟩
  go_wp2_with fail
  refine (isa5 (.iface 163 v) false (fun w => run_typeAssert_lacksB Tryz.underlying96 (by kernel_rfl) (by kernel_rfl) v 20 w) _).mono ?_
  rintro e w' ⟨rfl, rfl⟩
  go_wp2_with fail
  refine (isa6 (.iface 163 v) false (fun w => run_typeAssert_lacksB Tryz.underlying98 (by kernel_rfl) (by kernel_rfl) v 20 w) _).mono ?_
  rintro e w' ⟨rfl, rfl⟩
  go_wp2_with fail
  refine (isa7 (.iface 163 v) false (fun w => run_typeAssert_lacksB Tryz.underlying100 (by kernel_rfl) (by kernel_rfl) v 20 w) _).mono ?_
  rintro e w' ⟨rfl, rfl⟩
  go_wp2_with fail
  refine (isa8 (.iface 163 v) false (fun w => run_typeAssert_lacksB Tryz.underlying102 (by kernel_rfl) (by kernel_rfl) v 20 w) _).mono ?_
  rintro e w' ⟨rfl, rfl⟩
  go_wp2_with fail
  refine (isa9 (.iface 163 v) true (fun w => run_typeAssert_hasB Tryz.underlying104 (by kernel_rfl) v 20 w) _).mono ?_
  rintro e w' ⟨rfl, rfl⟩
  go_wp2_with fail
  refine (isa10 (.iface 163 v) false (fun w => run_typeAssert_lacksB Tryz.underlying106 (by kernel_rfl) (by kernel_rfl) v 20 w) _).mono ?_
  rintro e w' ⟨rfl, rfl⟩
  go_wp2_with fail
  refine (isa11 (.iface 163 v) false (fun w => run_typeAssert_lacksB Tryz.underlying108 (by kernel_rfl) (by kernel_rfl) v 20 w) _).mono ?_
  rintro e w' ⟨rfl, rfl⟩
  go_wp2_with fail
  refine (isa12 (.iface 163 v) false (fun w => run_typeAssert_lacksB Tryz.underlying110 (by kernel_rfl) (by kernel_rfl) v 20 w) _).mono ?_
  rintro e w' ⟨rfl, rfl⟩
  go_wp2_with fail
  refine (isa13 (.iface 163 v) false (fun w => run_typeAssert_lacksB Tryz.underlying112 (by kernel_rfl) (by kernel_rfl) v 20 w) _).mono ?_
  rintro e w' ⟨rfl, rfl⟩
  go_wp2_with fail
  refine (isa14 (.iface 163 v) false (fun w => run_typeAssert_lacksB Tryz.underlying114 (by kernel_rfl) (by kernel_rfl) v 20 w) _).mono ?_
  rintro e w' ⟨rfl, rfl⟩
  go_wp2_with fail
  refine (isa15 (.iface 163 v) false (fun w => run_typeAssert_lacksB Tryz.underlying116 (by kernel_rfl) (by kernel_rfl) v 20 w) _).mono ?_
  rintro e w' ⟨rfl, rfl⟩
  go_wp2_with fail
  refine (isa16 (.iface 163 v) true (fun w => run_typeAssert_hasB Tryz.underlying118 (by kernel_rfl) v 20 w) _).mono ?_
  rintro e w' ⟨rfl, rfl⟩
  go_wp2_with fail
  refine (isa17 (.iface 163 v) false (fun w => run_typeAssert_lacksB Tryz.underlying120 (by kernel_rfl) (by kernel_rfl) v 20 w) _).mono ?_
  rintro e w' ⟨rfl, rfl⟩
  go_wp2_with fail
  refine (isa18 (.iface 163 v) false (fun w => run_typeAssert_lacksB Tryz.underlying122 (by kernel_rfl) (by kernel_rfl) v 20 w) _).mono ?_
  rintro e w' ⟨rfl, rfl⟩
  go_wp2_with fail
  refine (isa19 (.iface 163 v) true (fun w => run_typeAssert_hasB Tryz.underlying20 (by kernel_rfl) v 20 w) _).mono ?_
  rintro e w' ⟨rfl, rfl⟩
  go_wp2_with fail
  go_ret
  exact ⟨rfl, rfl⟩
set_option maxRecDepth 100000 in
theorem held26 (v : Value) (w : World) : Calls Tryz.prog 29 #[.iface 83 v] w fun e w' => e = .returned (.int .u32 525314) ∧ w = w' := by
  go_enter Tryz.func29, Tryz.ntmps29
  go_wp2_with fail
  refine (isa1 (.iface 83 v) true (fun w => run_typeAssert_hasB Tryz.underlying70 (by kernel_rfl) v 20 w) _).mono ?_
  rintro e w' ⟨rfl, rfl⟩
  go_wp2_with fail
  refine (isa2 (.iface 83 v) false (fun w => run_typeAssert_lacksB Tryz.underlying90 (by kernel_rfl) (by kernel_rfl) v 20 w) _).mono ?_
  rintro e w' ⟨rfl, rfl⟩
  go_wp2_with fail
  refine (isa3 (.iface 83 v) false (fun w => run_typeAssert_lacksB Tryz.underlying92 (by kernel_rfl) (by kernel_rfl) v 20 w) _).mono ?_
  rintro e w' ⟨rfl, rfl⟩
  go_wp2_with fail
  refine (isa4 (.iface 83 v) false (fun w => run_typeAssert_lacksB Tryz.underlying94 (by kernel_rfl) (by kernel_rfl) v 20 w) _).mono ?_
  rintro e w' ⟨rfl, rfl⟩
  go_wp2_with fail
  refine (isa5 (.iface 83 v) false (fun w => run_typeAssert_lacksB Tryz.underlying96 (by kernel_rfl) (by kernel_rfl) v 20 w) _).mono ?_
  rintro e w' ⟨rfl, rfl⟩
  go_wp2_with fail
  refine (isa6 (.iface 83 v) false (fun w => run_typeAssert_lacksB Tryz.underlying98 (by kernel_rfl) (by kernel_rfl) v 20 w) _).mono ?_
  rintro e w' ⟨rfl, rfl⟩
  go_wp2_with fail
  refine (isa7 (.iface 83 v) false (fun w => run_typeAssert_lacksB Tryz.underlying100 (by kernel_rfl) (by kernel_rfl) v 20 w) _).mono ?_
  rintro e w' ⟨rfl, rfl⟩
  go_wp2_with fail
  refine (isa8 (.iface 83 v) false (fun w => run_typeAssert_lacksB Tryz.underlying102 (by kernel_rfl) (by kernel_rfl) v 20 w) _).mono ?_
  rintro e w' ⟨rfl, rfl⟩
  go_wp2_with fail
  refine (isa9 (.iface 83 v) false (fun w => run_typeAssert_lacksB Tryz.underlying104 (by kernel_rfl) (by kernel_rfl) v 20 w) _).mono ?_
  rintro e w' ⟨rfl, rfl⟩
  go_wp2_with fail
  refine (isa10 (.iface 83 v) true (fun w => run_typeAssert_hasB Tryz.underlying106 (by kernel_rfl) v 20 w) _).mono ?_
  rintro e w' ⟨rfl, rfl⟩
  go_wp2_with fail
  refine (isa11 (.iface 83 v) false (fun w => run_typeAssert_lacksB Tryz.underlying108 (by kernel_rfl) (by kernel_rfl) v 20 w) _).mono ?_
  rintro e w' ⟨rfl, rfl⟩
  go_wp2_with fail
  refine (isa12 (.iface 83 v) false (fun w => run_typeAssert_lacksB Tryz.underlying110 (by kernel_rfl) (by kernel_rfl) v 20 w) _).mono ?_
  rintro e w' ⟨rfl, rfl⟩
  go_wp2_with fail
  refine (isa13 (.iface 83 v) false (fun w => run_typeAssert_lacksB Tryz.underlying112 (by kernel_rfl) (by kernel_rfl) v 20 w) _).mono ?_
  rintro e w' ⟨rfl, rfl⟩
  go_wp2_with fail
  refine (isa14 (.iface 83 v) false (fun w => run_typeAssert_lacksB Tryz.underlying114 (by kernel_rfl) (by kernel_rfl) v 20 w) _).mono ?_
  rintro e w' ⟨rfl, rfl⟩
  go_wp2_with fail
  refine (isa15 (.iface 83 v) false (fun w => run_typeAssert_lacksB Tryz.underlying116 (by kernel_rfl) (by kernel_rfl) v 20 w) _).mono ?_
  rintro e w' ⟨rfl, rfl⟩
  go_wp2_with fail
  refine (isa16 (.iface 83 v) false (fun w => run_typeAssert_lacksB Tryz.underlying118 (by kernel_rfl) (by kernel_rfl) v 20 w) _).mono ?_
  rintro e w' ⟨rfl, rfl⟩
  go_wp2_with fail
  refine (isa17 (.iface 83 v) false (fun w => run_typeAssert_lacksB Tryz.underlying120 (by kernel_rfl) (by kernel_rfl) v 20 w) _).mono ?_
  rintro e w' ⟨rfl, rfl⟩
  go_wp2_with fail
  refine (isa18 (.iface 83 v) false (fun w => run_typeAssert_lacksB Tryz.underlying122 (by kernel_rfl) (by kernel_rfl) v 20 w) _).mono ?_
  rintro e w' ⟨rfl, rfl⟩
  go_wp2_with fail
  refine (isa19 (.iface 83 v) true (fun w => run_typeAssert_hasB Tryz.underlying20 (by kernel_rfl) v 20 w) _).mono ?_
  rintro e w' ⟨rfl, rfl⟩
  go_wp2_with fail
  go_ret
  exact ⟨rfl, rfl⟩
end Go.Proofs.YtacijlfckmllcaaGreatDoor
