/- SagaNone is true: acts that are none, a supervisor that is not there, and the ends of one that is. A closed statement, no condition; the card ties the variables that its row names. -/
import Derived.Test.YtnlgiodhfmcaaaaGreatDoorRows
import Derived.Test.YtnlgiodhfmcaaaaGreatDoorTie
import Derived.Test.YtnlgiodhfmcaaaaGreatDoorCards
import Derived.ProofKit
import Derived.SevenTiedAt
import Derived.Stop.Joined
import Derived.Test.YtnlgiodhfmcaaaaGreatDoorSagA
import Derived.Test.YtnlgiodhfmcaaaaGreatDoorSagA4
import Derived.Test.YtnlgiodhfmcaaaaGreatDoorSagB
namespace Go.Proofs.YtnlgiodhfmcaaaaGreatDoor.snone
open Go.ChangeShapes Go.WideShapes Go.ChangeAt Go.RowKit

theorem row : Rows.SagaNoneSaid :=
  OpenClaim.holds_of_wide 3 Tryz.f3 rfl rfl rfl rfl rfl rfl rfl ⟨rfl, rfl, rfl, rfl, rfl⟩ rfl rfl rfl rfl rfl a1 Tryz.func3 a4 a2 a3
    (fun os started H enc _ => lifted os started H enc)

theorem proved : Rows.SagaNoneCardSaid :=
  Claim7.holds_tied_plain_at .later [] [.data, .data, .data, .data, .pinned, .pinned] true Rows.sagaNoneCard.stood.harness true
    row (fun _ h => by cases h) (by kernel_rfl) (fun _ h => by cases h) sagaNone_row_tie rfl ⟨rfl, rfl⟩ (by kernel_rfl) rfl
    (fun f fn hf hfn => by
      obtain rfl : f = 3 := Option.some.inj ((show Tryz.prog.funcNamed "errata/erratalaw27.SagaNone" = some 3 by kernel_rfl).symm.trans hf) |>.symm
      obtain rfl : fn = Tryz.f3 := (Option.some.inj (Tryz.func3.symm.trans hfn)).symm
      exact ⟨by kernel_rfl, fun j t ht => by
        rw [Tryz.params3] at ht
        simp at ht⟩)
    (by kernel_rfl)
#print axioms proved
end Go.Proofs.YtnlgiodhfmcaaaaGreatDoor.snone
