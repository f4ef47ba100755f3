import Derived.Test.YtmdokhndnimolaaNone1
namespace Go.Proofs.Ytmdokhndnimolaa
open Go.RowKit

theorem holds_nil (h : Int) (f : Int) (w : World) : Calls Try.prog 4 #[.pointer none, .int .i64 h, .int .u8 f] w fun e w' => e = .returned (.tuple #[.bool false, .int .i64 2]) ∧ Chg [] w w' := by
  go_enter Try.func4, Try.ntmps4
  go_wp2_with fail
  refine (value_of (at_nil h _)).mono ?_
  rintro e w' ⟨rfl, hc⟩
  have HC := Lib.hid hc; clear hc
  go_wp2_with fail
  refine bodyPost_ret (v := .tuple #[.bool false, .int .i64 2]) (by simp only [results, Try.results4]; go_simp) rfl ?_
  exact ⟨rfl, HC.out⟩

theorem held_nil (h : Int) (w : World) : Calls Try.prog 6 #[.pointer none, .int .i64 h] w fun e w' => e = .returned (.tuple #[.int .u32 0, .int .i64 2]) ∧ Chg [] w w' := by
  go_enter Try.func6, Try.ntmps6
  go_wp2_with fail
  refine (value_of (at_nil h _)).mono ?_
  rintro e w' ⟨rfl, hc⟩
  have HC := Lib.hid hc; clear hc
  go_wp2_with fail
  refine bodyPost_ret (v := .tuple #[.int .u32 0, .int .i64 2]) (by simp only [results, Try.results6]; go_simp) rfl ?_
  exact ⟨rfl, HC.out⟩

theorem road_nil (h : Int) (A : Option Addr) (l c : Nat) (w : World) : Calls Try.prog 7 #[.pointer none, .int .i64 h, .slice A l c] w fun e w' => e = .returned (.tuple #[.int .i64 0, .int .i64 2]) ∧ Chg [] w w' := by
  go_enter Try.func7, Try.ntmps7
  go_wp2_with fail
  refine (value_of (at_nil h _)).mono ?_
  rintro e w' ⟨rfl, hc⟩
  have HC := Lib.hid hc; clear hc
  go_wp2_with fail
  refine bodyPost_ret (v := .tuple #[.int .i64 0, .int .i64 2]) (by simp only [results, Try.results7]; go_simp) rfl ?_
  exact ⟨rfl, HC.out⟩

theorem road_one (x : Nat) (A : Option Addr) (l c : Nat) (w : World) (hx : w.cell? ⟨x, 0, none⟩ = some (.slice none 0 0)) : Calls Try.prog 7 #[.pointer (some ⟨x, 0, none⟩), .int .i64 1, .slice A l c] w fun e w' => e = .returned (.tuple #[.int .i64 0, .int .i64 50]) ∧ Chg [] w w' := by
  have HX := Lib.hid hx; clear hx
  go_enter Try.func7, Try.ntmps7
  go_wp2_with fail
  refine (value_of (at_one x _ HX.out)).mono ?_
  rintro e w' ⟨rfl, hc⟩
  have HC := Lib.hid hc; clear hc
  go_wp2_with fail
  refine bodyPost_ret (v := .tuple #[.int .i64 0, .int .i64 50]) (by simp only [results, Try.results7]; go_simp) rfl ?_
  exact ⟨rfl, HC.out⟩

theorem road_long (x : Nat) (A : Option Addr) (c : Nat) (w : World) : Calls Try.prog 7 #[.pointer (some ⟨x, 0, none⟩), .int .i64 0, .slice A 65 c] w fun e w' => e = .returned (.tuple #[.int .i64 0, .int .i64 1]) ∧ Chg [] w w' := by
  go_enter Try.func7, Try.ntmps7
  go_wp2_with fail
  refine (value_of (at_zero x _)).mono ?_
  rintro e w' ⟨rfl, hc⟩
  have HC := Lib.hid hc; clear hc
  go_wp2_with fail
  refine bodyPost_ret (v := .tuple #[.int .i64 0, .int .i64 1]) (by simp only [results, Try.results7]; go_simp) rfl ?_
  exact ⟨rfl, HC.out⟩

theorem right_zero (w : World) : Calls Try.prog 13 #[.int .u8 0] w fun e w' => e = .returned (.int .i64 60) ∧ w = w' := by
  go_enter Try.func13, Try.ntmps13
  go_wp2_with fail
  go_ret
  exact ⟨rfl, rfl⟩

theorem which_nil (f : Int) (w : World) : Calls Try.prog 8 #[.pointer none, .int .u8 f] w fun e w' => e = .returned (.tuple #[.slice none 0 0, .int .i64 2]) ∧ Chg [] w w' := by
  go_enter Try.func8, Try.ntmps8
  go_wp2_with fail
  refine bodyPost_ret (v := .tuple #[.slice none 0 0, .int .i64 2]) (by simp only [results, Try.results8]; go_simp) rfl ?_
  exact ⟨rfl, (Chg.refl _ _).alloc _⟩

theorem shared_nil (A : Option Addr) (l c : Nat) (w : World) : Calls Try.prog 9 #[.pointer none, .slice A l c] w fun e w' => e = .returned (.tuple #[.int .u32 0, .int .i64 2]) ∧ Chg [] w w' := by
  go_enter Try.func9, Try.ntmps9
  go_wp2_with fail
  refine bodyPost_ret (v := .tuple #[.int .u32 0, .int .i64 2]) (by simp only [results, Try.results9]; go_simp) rfl ?_
  exact ⟨rfl, Chg.refl _ _⟩

theorem new_book (w : World) : Calls Try.prog 11 #[] w fun e w' => e = .returned (.pointer (some ⟨w.heap.size, 0, none⟩)) ∧ w'.cell? ⟨w.heap.size, 0, none⟩ = some (.slice none 0 0) ∧ w.heap.size < w'.heap.size ∧ Chg [] w w' := by
  go_enter Try.func11, Try.ntmps11
  go_wp2_with fail
  go_ret
  exact ⟨rfl, (Blk.new w _ _).cell 0, by simp, (Chg.refl _ _).alloc _⟩
end Go.Proofs.Ytmdokhndnimolaa
