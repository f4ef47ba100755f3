/- The closed facts of SagaNone's row, taken together, one by one by the kernel. -/
import Derived.Test.YtnlgiodhfmcaaaaGreatDoorRows
import Derived.ProofKit
import Derived.SevenTiedAt
import Derived.Stop.Joined
namespace Go.Proofs.YtnlgiodhfmcaaaaGreatDoor.snone
open Go.ChangeShapes Go.WideShapes Go.ChangeAt Go.RowKit

theorem and_t {a b : Bool} (h : a = true) (k : b = true) : (a && b) = true := by rw [h, k]; rfl

set_option maxHeartbeats 4000000 in
theorem a4 : joinedFacts Tryz.pinned.checked.prog 3 Tryz.f3 Rows.sagaNoneSpec Rows.sagaNoneRow = true := by
  unfold joinedFacts
  repeat' with_reducible refine and_t ?_ ?_
  all_goals as_aux_lemma => kernel_rfl
end Go.Proofs.YtnlgiodhfmcaaaaGreatDoor.snone
