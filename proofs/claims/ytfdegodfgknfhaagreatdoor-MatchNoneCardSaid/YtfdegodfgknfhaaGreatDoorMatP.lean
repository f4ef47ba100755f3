/- MatchNone is true: what is told where there is no book, and of a book without errors. A closed statement, no condition; the card ties the variables that its row names. -/
import Derived.Test.YtfdegodfgknfhaaGreatDoorRows
import Derived.Test.YtfdegodfgknfhaaGreatDoorTie
import Derived.Test.YtfdegodfgknfhaaGreatDoorCards
import Derived.ProofKit
import Derived.SevenTiedAt
import Derived.Stop.Joined
import Derived.Test.YtfdegodfgknfhaaGreatDoorMatA
import Derived.Test.YtfdegodfgknfhaaGreatDoorMatB
namespace Go.Proofs.YtfdegodfgknfhaaGreatDoor.mnone
open Go.ChangeShapes Go.WideShapes Go.ChangeAt Go.RowKit

theorem row : Rows.MatchNoneSaid :=
  OpenClaim.holds_of_wide 3 Tryz.f3 rfl rfl rfl rfl rfl rfl rfl ⟨rfl, rfl, rfl, rfl, rfl⟩ rfl rfl rfl rfl rfl a1 Tryz.func3 a4 a2 a3
    (fun os started H enc _ => lifted os started H enc)

theorem proved : Rows.MatchNoneCardSaid :=
  Claim7.holds_tied_plain_at .later [] [.data, .data, .data, .data, .pinned, .pinned] true Rows.matchNoneCard.stood.harness true
    row (fun _ h => by cases h) (by kernel_rfl) (fun _ h => by cases h) matchNone_row_tie rfl ⟨rfl, rfl⟩ (by kernel_rfl) rfl
    (fun f fn hf hfn => by
      obtain rfl : f = 3 := Option.some.inj ((show Tryz.prog.funcNamed "errata/erratalaw12.MatchNone" = some 3 by kernel_rfl).symm.trans hf) |>.symm
      obtain rfl : fn = Tryz.f3 := (Option.some.inj (Tryz.func3.symm.trans hfn)).symm
      exact ⟨by kernel_rfl, fun j t ht => by
        rw [Tryz.params3] at ht
        simp at ht⟩)
    (by kernel_rfl)
#print axioms proved
end Go.Proofs.YtfdegodfgknfhaaGreatDoor.mnone
