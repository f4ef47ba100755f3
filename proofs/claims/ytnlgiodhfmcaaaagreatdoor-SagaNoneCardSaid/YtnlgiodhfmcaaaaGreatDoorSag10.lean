/-
  Acts that are none, made.
-/
import Derived.Test.YtnlgiodhfmcaaaaGreatDoorSag1
import Derived.Laws.MakeOwn
namespace Go.Proofs.YtnlgiodhfmcaaaaGreatDoor
open Go.RowKit

def noActs (n : Nat) : Array Value := madeCells #[.nilFunc, .nilFunc] (n * 2)
theorem act_info : (Tryz.prog.info? 53).map (fun i => (i.zero, i.size, i.bytes)) = some (some (.agg #[.nilFunc, .nilFunc]), 2, 16) := by kernel_rfl
theorem make_acts (n : Nat) (hn : n ≤ 1000) (w : World) : (Instr.makeSlice 31 (.int .i64 n) (.int .i64 n)).run Tryz.prog w = .ok (.slice (some ⟨w.heap.size, 0, none⟩) n n) (w.alloc (.cells (noActs n) 53)) := by
  obtain ⟨i, hi, hz0, hz1, hz2⟩ := info_parts act_info
  have := run_make (P := Tryz.prog) w 31 53 i _ Tryz.underlying31 hi hz0 .i64 .i64 n n (by omega) (by omega) (by rw [hz2]; omega) (by omega)
  rw [this, hz1]
  rfl
theorem noActs64 : (List.range 128).all (fun i => match (noActs 64)[i]? with | some .nilFunc => true | _ => false) = true := by kernel_rfl
theorem act_cell (i : Nat) (h : i < 128) : (noActs 64)[i]? = some .nilFunc := by
  have := List.all_eq_true.1 noActs64 i (List.mem_range.2 h)
  split at this
  · assumption
  · cases this
end Go.Proofs.YtnlgiodhfmcaaaaGreatDoor
