/-
  DERIVED. GIVEN WITH THE SEED: THE CARDS: each row of YtfdegodfgknfhaaGreatDoorRows.lean that lists a variable, with what it lists TIED to the program's text (the seventh form; the later family's looks); each row that meets fmt, with fmt's text TOLD by the authors' own Lean function (tested against real Go, not proved from fmt's source: count such statements apart). THE CARD IS WHAT COUNTS. Prove the row's statement (the work); the ties are given (YtfdegodfgknfhaaGreatDoorTie.lean); close each card by the builder's one call (the guide's Derived/Test/ToyasCard.lean, 'card_holds'). Laid BY PROGRAM, IN A SANDBOX (cutbox-door.mjs). By AI agents, Wed Nov 11 2026. No macro, syntax, notation, axiom, sorry.
-/
import Derived.Test.YtfdegodfgknfhaaGreatDoorRows
import GoSem.ClaimSeven
namespace Go.Proofs.YtfdegodfgknfhaaGreatDoor
namespace Rows

/-- THE TIED CARD OF 'erratalaw12.MatchNone'. -/
def matchNoneCard : Claim7 := { stood := { row := matchNoneRow, standIns := [], harness := (true, "74d7187079d6a71d136937097f5fa884cac5d5474db8f2323bb8f690866cc35a"), looks := true }, kinds := [], alts := [], laidByText := true, laidKinds := [.data, .data, .data, .data, .pinned, .pinned], laidTests := true, laidLooks := .later }
def MatchNoneCardSaid : Prop := Claim7.holds Tryz.pinned (.plain (OpenSpec.ofChange matchNoneSpec)) matchNoneCard

/-- THE SECOND FORM's CARD OF 'erratalaw12.MatchNone'. -/
def matchNoneUptoCard : Claim7 := { stood := { row := matchNoneUptoRow, standIns := [], harness := (true, "74d7187079d6a71d136937097f5fa884cac5d5474db8f2323bb8f690866cc35a"), looks := true }, kinds := [], alts := [], laidByText := true, laidKinds := [.data, .data, .data, .data, .pinned, .pinned], laidTests := true, laidLooks := .later }
def MatchNoneUptoCardSaid : Prop := Claim7.holds Tryz.pinned (.plain (OpenSpec.upto matchNoneSpec)) matchNoneUptoCard
end Rows
end Go.Proofs.YtfdegodfgknfhaaGreatDoor
