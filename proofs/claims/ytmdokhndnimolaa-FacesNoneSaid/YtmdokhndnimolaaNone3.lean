import Derived.Test.YtmdokhndnimolaaNone2
import Derived.Defers
namespace Go.Proofs.Ytmdokhndnimolaa
open Go.RowKit

theorem assert_nil (h : Int) (f : Int) (w : World) : Calls Try.prog 5 #[.pointer none, .int .i64 h, .int .u8 f] w fun e w' => e = .returned (.tuple #[.agg #[.int .i64 0, .string ⟨#[]⟩, .int .i64 0], .int .i64 2]) ∧ Chg [] w w' := by
  go_enter_defers Try.func5, Try.ntmps5
  go_wp2_with fail
  refine (value_of (at_nil h _)).mono ?_
  rintro e w' ⟨rfl, hc⟩
  have hb := (Blk.new w 26 _).chg hc (by simp)
  obtain ⟨⟨c0, c1, c2⟩, ⟨f0, f1, f2⟩⟩ := hb.three
  have HC : Hid (Chg [] w w') := ((Chg.refl [] w).alloc _).trans hc
  clear hc hb
  go_wp2_with fail
  refine ⟨.tuple #[.agg #[.int .i64 0, .string ⟨#[]⟩, .int .i64 0], .int .i64 2], (by simp only [results, Try.results5]; go_simp), ?_⟩
  refine ⟨rfl, ?_⟩
  repeat (with_reducible first | exact HC.out | refine Chg.drew ?_ | refine Chg.setCell ?_ (.inr (Nat.le_refl _)) _)
end Go.Proofs.Ytmdokhndnimolaa
