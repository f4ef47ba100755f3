/- The closed facts of SagaNone's row, each by the kernel. -/
import Derived.Test.YtnlgiodhfmcaaaaGreatDoorRows
import Derived.ProofKit
import Derived.SevenTiedAt
import Derived.Stop.Joined
namespace Go.Proofs.YtnlgiodhfmcaaaaGreatDoor.snone
open Go.ChangeShapes Go.WideShapes Go.ChangeAt Go.RowKit

theorem a1 : Tryz.pinned.checked.prog.funcNamed Rows.sagaNoneRow.func = some 3 := by kernel_rfl
theorem a2 : Tryz.f3.isInstance Tryz.pinned.checked.prog Rows.sagaNoneRow.origin Rows.sagaNoneRow.targs := of_decide_eq_true (by kernel_rfl)
theorem a3 : Tryz.f3.isWrapper Tryz.pinned.checked.prog Rows.sagaNoneRow.wrapper Rows.sagaNoneRow.mainSum := by unfold Func.isWrapper; first | (rw [if_pos (by decide +kernel)]; kernel_rfl) | (rw [if_neg (by decide +kernel)]; exact ⟨rfl, rfl⟩)
end Go.Proofs.YtnlgiodhfmcaaaaGreatDoor.snone
