/-
  DERIVED. GIVEN WITH THE SEED: THE CARDS: each row of YtnlgiodhfmcaaaaGreatDoorRows.lean that lists a variable, with what it lists TIED to the program's text (the seventh form; the later family's looks); each row that meets fmt, with fmt's text TOLD by the authors' own Lean function (tested against real Go, not proved from fmt's source: count such statements apart). THE CARD IS WHAT COUNTS. Prove the row's statement (the work); the ties are given (YtnlgiodhfmcaaaaGreatDoorTie.lean); close each card by the builder's one call (the guide's Derived/Test/ToyasCard.lean, 'card_holds'). Laid BY PROGRAM, IN A SANDBOX (cutbox-door.mjs). By AI agents, Wed Nov 11 2026. No macro, syntax, notation, axiom, sorry.
-/
import Derived.Test.YtnlgiodhfmcaaaaGreatDoorRows
import GoSem.ClaimSeven
namespace Go.Proofs.YtnlgiodhfmcaaaaGreatDoor
namespace Rows

/-- THE TIED CARD OF 'erratalaw27.SagaNone'. -/
def sagaNoneCard : Claim7 := { stood := { row := sagaNoneRow, standIns := [], harness := (true, "3a0d591fb01b47b9aad6ea889fac2fe01bcee459f613b74ddd4b84f470bbc03e"), looks := true }, kinds := [], alts := [], laidByText := true, laidKinds := [.data, .data, .data, .data, .pinned, .pinned], laidTests := true, laidLooks := .later }
def SagaNoneCardSaid : Prop := Claim7.holds Tryz.pinned (.plain (OpenSpec.ofChange sagaNoneSpec)) sagaNoneCard

/-- THE SECOND FORM's CARD OF 'erratalaw27.SagaNone'. -/
def sagaNoneUptoCard : Claim7 := { stood := { row := sagaNoneUptoRow, standIns := [], harness := (true, "3a0d591fb01b47b9aad6ea889fac2fe01bcee459f613b74ddd4b84f470bbc03e"), looks := true }, kinds := [], alts := [], laidByText := true, laidKinds := [.data, .data, .data, .data, .pinned, .pinned], laidTests := true, laidLooks := .later }
def SagaNoneUptoCardSaid : Prop := Claim7.holds Tryz.pinned (.plain (OpenSpec.upto sagaNoneSpec)) sagaNoneUptoCard
end Rows
end Go.Proofs.YtnlgiodhfmcaaaaGreatDoor
