import Derived.Test.YtmdokhndnimolaaNone4
import Derived.Laws.MakeOwn
namespace Go.Proofs.Ytmdokhndnimolaa
open Go.RowKit

/-- n noughts. -/
def noughts (n : Nat) : Array Value := Array.replicate n (.int .u8 0)

theorem u8_info : (Try.prog.info? 5).map (fun i => (i.zero, i.size, i.bytes)) = some (some (.int .u8 0), 1, 1) := by kernel_rfl

theorem make_noughts (n : Nat) (hn : n ≤ 1000) (w : World) : (Instr.makeSlice 34 (.int .i64 n) (.int .i64 n)).run Try.prog w = .ok (.slice (some ⟨w.heap.size, 0, none⟩) n n) (w.alloc (.cells (noughts n) 5)) := by
  obtain ⟨i, hi, hz0, hz1, hz2⟩ := info_parts u8_info
  have := run_make (P := Try.prog) w 34 5 i _ Try.underlying34 hi hz0 .i64 .i64 n n (by omega) (by omega) (by rw [hz2]; omega) (by omega)
  rw [this, hz1]
  simp only [Int.toNat_natCast, Nat.mul_one]
  have e : madeCells (Value.int .u8 0).cells n = noughts n := by
    apply Array.ext
    · simp [madeCells, noughts]
    · intro j h1 h2
      simp [madeCells, noughts, Value.cells, Nat.mod_one]
  rw [e]

set_option maxRecDepth 100000 in
set_option maxHeartbeats 1000000 in
theorem walk (w : World) : Calls Try.prog 3 #[] w fun e w' => e = .returned (.bool true) ∧ Chg [] w w' := by
  go_enter Try.func3, Try.ntmps3
  go_wp2_with fail
  refine (holds_nil 9 99 _).mono ?_
  rintro e w1 ⟨rfl, hc1⟩
  have HC1 := Lib.hid hc1; clear hc1
  go_wp2_with fail
  refine (assert_nil 9 99 _).mono ?_
  rintro e w2 ⟨rfl, hc2⟩
  have HC2 := Lib.hid (HC1.out.trans hc2); clear hc2 HC1
  go_wp2_with fail
  refine (held_nil 9 _).mono ?_
  rintro e w3 ⟨rfl, hc3⟩
  have HC3 := Lib.hid ((HC2.out.alloc _).trans hc3); clear hc3 HC2
  go_wp2_with fail
  refine (road_nil 9 _ _ _ _).mono ?_
  rintro e w4 ⟨rfl, hc4⟩
  have HC4 := Lib.hid ((HC3.out.alloc _).trans hc4); clear hc4 HC3
  go_wp2_with fail
  refine (which_nil 99 _).mono ?_
  rintro e w5 ⟨rfl, hc5⟩
  have HC5 := Lib.hid (HC4.out.trans hc5); clear hc5 HC4
  go_wp2_with fail
  refine (shared_nil _ _ _ _).mono ?_
  rintro e w6 ⟨rfl, hc6⟩
  have HC6 := Lib.hid ((HC5.out.alloc _).trans hc6); clear hc6 HC5
  go_wp2_with fail
  refine (named_empty _).mono ?_
  rintro e w7 ⟨rfl, hc7⟩
  have HC7 := Lib.hid (HC6.out.trans hc7); clear hc7 HC6
  go_wp2_with fail
  refine (new_book _).mono ?_
  rintro e w8 ⟨rfl, hx, hs, hc8⟩
  have HC8 := Lib.hid (HC7.out.trans hc8); clear hc8 HC7
  have HX := Lib.hid hx; clear hx
  generalize w7.heap.size = x at *
  clear w7
  have mk5 : ∀ w : World, (Instr.makeSlice 34 (.int .i64 65) (.int .i64 65)).run Try.prog w = .ok (.slice (some ⟨w.heap.size, 0, none⟩) 65 65) (w.alloc (.cells (noughts 65) 5)) := make_noughts 65 (by omega)
  have mk4 : ∀ w : World, (Instr.makeSlice 34 (.int .i64 64) (.int .i64 64)).run Try.prog w = .ok (.slice (some ⟨w.heap.size, 0, none⟩) 64 64) (w.alloc (.cells (noughts 64) 5)) := make_noughts 64 (by omega)
  go_wp2_with fail
  refine (road_long x _ _ _).mono ?_
  rintro e w9 ⟨rfl, hc9⟩
  have HS9 : Hid (x < w9.heap.size) := by have := hc9.size; simp at this; show _ < _; omega
  have HX9 := Lib.hid (((hc9.cell (p := ⟨x, 0, none⟩) (by simp; omega) (by simp)).trans (by rw [World.cell?_alloc_lt _ _ _ hs])).trans HX.out)
  have HC9 := Lib.hid ((HC8.out.alloc _).trans hc9); clear hc9 HC8 HX
  go_wp2_with fail
  refine (road_bad x _ _ _ (by simp) ((Blk.new _ _ _).cell 0)).mono ?_
  rintro e w10 ⟨rfl, hc10⟩
  have HX10 := Lib.hid (((hc10.cell (p := ⟨x, 0, none⟩) (by have := HS9.out; simp; omega) (by simp)).trans (by rw [World.cell?_alloc_lt _ _ _ HS9.out])).trans HX9.out)
  have HS10 : Hid (x < w10.heap.size) := by have := hc10.size; have := HS9.out; simp at *; show _ < _; omega
  have HC10 := Lib.hid ((HC9.out.alloc _).trans hc10); clear hc10 HC9 HX9
  go_wp2_with fail
  refine (road_one x _ _ _ _ (by rw [World.cell?_alloc_lt _ _ _ HS10.out]; exact HX10.out)).mono ?_
  rintro e w11 ⟨rfl, hc11⟩
  have HC11 := Lib.hid ((HC10.out.alloc _).trans hc11); clear hc11 HC10 HX10
  go_wp2_with fail
  go_ret
  exact ⟨rfl, HC11.out⟩
end Go.Proofs.Ytmdokhndnimolaa
