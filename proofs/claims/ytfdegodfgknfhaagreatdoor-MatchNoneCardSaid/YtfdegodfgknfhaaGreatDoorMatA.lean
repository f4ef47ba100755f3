/- The closed facts of MatchNone's row, each by the kernel. -/
import Derived.Test.YtfdegodfgknfhaaGreatDoorRows
import Derived.ProofKit
import Derived.SevenTiedAt
import Derived.Stop.Joined
namespace Go.Proofs.YtfdegodfgknfhaaGreatDoor.mnone
open Go.ChangeShapes Go.WideShapes Go.ChangeAt Go.RowKit

theorem a1 : Tryz.pinned.checked.prog.funcNamed Rows.matchNoneRow.func = some 3 := by kernel_rfl
theorem a2 : Tryz.f3.isInstance Tryz.pinned.checked.prog Rows.matchNoneRow.origin Rows.matchNoneRow.targs := of_decide_eq_true (by kernel_rfl)
theorem a3 : Tryz.f3.isWrapper Tryz.pinned.checked.prog Rows.matchNoneRow.wrapper Rows.matchNoneRow.mainSum := by unfold Func.isWrapper; first | (rw [if_pos (by decide +kernel)]; kernel_rfl) | (rw [if_neg (by decide +kernel)]; exact ⟨rfl, rfl⟩)
theorem a4 : joinedFacts Tryz.pinned.checked.prog 3 Tryz.f3 Rows.matchNoneSpec Rows.matchNoneRow = true := by kernel_rfl
end Go.Proofs.YtfdegodfgknfhaaGreatDoor.mnone
