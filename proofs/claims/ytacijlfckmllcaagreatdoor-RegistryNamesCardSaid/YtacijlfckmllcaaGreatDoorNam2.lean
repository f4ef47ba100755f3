/-
  No registry, no book: the law's own questions.
-/
import Derived.Test.YtacijlfckmllcaaGreatDoorNam1
import Derived.Test.YtacijlfckmllcaaGreatDoorSer2
namespace Go.Proofs.YtacijlfckmllcaaGreatDoor
open Go.RowKit

theorem nfaces (w : World) : Calls Tryz.prog 20 #[.pointer none, .int .i64 0] w fun e w' => e = .returned (.tuple #[.int .u32 0, .int .i64 2]) ∧ Chg [] w w' := by
  go_enter Tryz.func20, Tryz.ntmps20
  go_wp2_with fail
  refine (nerror 0 w).mono ?_
  rintro e w1 ⟨rfl, hc⟩
  have HC := Lib.hid hc
  clear hc
  go_wp2_with fail
  refine (held0 _).mono ?_
  rintro e w' ⟨rfl, rfl⟩
  go_wp2_with fail
  go_ret2
  exact ⟨rfl, HC.out⟩

set_option maxRecDepth 100000 in
theorem nclone1 (w : World) : Calls Tryz.prog 70 #[.slice none 0 0] w fun e w' => e = .returned (.slice none 0 0) ∧ w = w' := by
  have hnil := fun (w : World) => Lib.run_eql_slice_nil (P := Tryz.prog) w 62 9 none 0 0 0 0 Tryz.underlying62
  go_enter Tryz.func70, Tryz.ntmps70
  go_wp2_with fail
  go_ret
  exact ⟨rfl, rfl⟩
set_option maxRecDepth 100000 in
theorem nclone2 (w : World) : Calls Tryz.prog 71 #[.slice none 0 0] w fun e w' => e = .returned (.slice none 0 0) ∧ w = w' := by
  have hnil := fun (w : World) => Lib.run_eql_slice_nil (P := Tryz.prog) w 78 3 none 0 0 0 0 Tryz.underlying78
  go_enter Tryz.func71, Tryz.ntmps71
  go_wp2_with fail
  go_ret
  exact ⟨rfl, rfl⟩

set_option maxRecDepth 100000 in
set_option maxHeartbeats 1000000 in
theorem ntwin (w : World) : Calls Tryz.prog 59 #[.agg zspec] w fun e w' => e = .returned (.agg zspec) ∧ Chg [] w w' := by
  unfold zspec
  go_enter Tryz.func59, Tryz.ntmps59
  go_wp2_with fail
  have k1 : ∀ W, Calls Tryz.prog 70 #[.slice none 0 0] W fun e w' => e = .returned (.slice none 0 0) ∧ w' = W := fun W => (nclone1 W).mono fun _ _ h => ⟨h.1, h.2.symm⟩
  have k2 : ∀ W, Calls Tryz.prog 71 #[.slice none 0 0] W fun e w' => e = .returned (.slice none 0 0) ∧ w' = W := fun W => (nclone2 W).mono fun _ _ h => ⟨h.1, h.2.symm⟩
  have K1 := Lib.hid k1; have K2 := Lib.hid k2
  have hsf := fun (w : World) (a : Addr) (k : FloatKind) x m => (run_store Tryz.prog w a (.float k x) m rfl : (store a (.float k x) m).run Tryz.prog w = stored Tryz.prog w a (.float k x) m)
  clear k1 k2
  refine wp_region_pick [] [0, 1, 2, 3, 4, 5, 6] 7 (by kernel_rfl) (by kernel_rfl) ?_
  simp only [List.nil_append, pickOps, List.getElem?_cons_succ, List.getElem?_cons_zero, List.drop_succ_cons, List.drop_zero]
  still_step
  still_step
  still_call (K1.out _)
  still_step
  still_step
  still_call (K2.out _)
  still_step
  refine wpStill_nil ?_
  go_wp2_with fail
  refine NoPanic.normal ?_
  go_wp2_with fail
  refine bodyPost_ret (v := .agg #[.int .u8 0, .bool false, .string ⟨#[]⟩, .int .i16 0, .int .i8 0, .float .f64 0, .float .f64 0, .bool false, .int .u32 0, .slice none 0 0, .slice none 0 0]) (by simp only [results, Tryz.results59]; go_simp) rfl ?_
  refine ⟨rfl, ?_⟩
  repeat (with_reducible first | exact Chg.refl _ _ | refine Chg.drew ?_ | refine Chg.alloc ?_ _ | refine Chg.setCell ?_ (.inr (by simp)) _)
end Go.Proofs.YtacijlfckmllcaaGreatDoor
