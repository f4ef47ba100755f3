/-
  DERIVED. GIVEN WITH THE SEED: THE CARDS: each row of YtacijlfckmllcaaGreatDoorRows.lean that lists a variable, with what it lists TIED to the program's text (the seventh form; the later family's looks); each row that meets fmt, with fmt's text TOLD by the authors' own Lean function (tested against real Go, not proved from fmt's source: count such statements apart). THE CARD IS WHAT COUNTS. Prove the row's statement (the work); the ties are given (YtacijlfckmllcaaGreatDoorTie.lean); close each card by the builder's one call (the guide's Derived/Test/ToyasCard.lean, 'card_holds'). Laid BY PROGRAM, IN A SANDBOX (cutbox-door.mjs). By AI agents, Wed Nov 11 2026. No macro, syntax, notation, axiom, sorry.
-/
import Derived.Test.YtacijlfckmllcaaGreatDoorRows
import GoSem.ClaimSeven
namespace Go.Proofs.YtacijlfckmllcaaGreatDoor
namespace Rows

/-- THE TIED CARD OF 'erratalaw17.RegistryOnce'. -/
def registryOnceCard : Claim7 := { stood := { row := registryOnceRow, standIns := [], harness := (true, "1baa0dfcea351fd5409a95e94e0a9f59a372cb67f82f7e49ca58058770165cc7"), looks := true }, kinds := [], alts := [], laidByText := true, laidKinds := [.data], laidTests := true, laidLooks := .later }
def RegistryOnceCardSaid : Prop := Claim7.holds Tryz.pinned (.plain (OpenSpec.ofChange registryOnceSpec)) registryOnceCard

/-- THE TIED CARD OF 'erratalaw17.RegistryFull'. -/
def registryFullCard : Claim7 := { stood := { row := registryFullRow, standIns := [], harness := (true, "1baa0dfcea351fd5409a95e94e0a9f59a372cb67f82f7e49ca58058770165cc7"), looks := true }, kinds := [], alts := [], laidByText := true, laidKinds := [.data], laidTests := true, laidLooks := .later }
def RegistryFullCardSaid : Prop := Claim7.holds Tryz.pinned (.plain (OpenSpec.ofChange registryFullSpec)) registryFullCard

/-- THE TIED CARD OF 'erratalaw17.RegistryNames'. -/
def registryNamesCard : Claim7 := { stood := { row := registryNamesRow, standIns := [], harness := (true, "1baa0dfcea351fd5409a95e94e0a9f59a372cb67f82f7e49ca58058770165cc7"), looks := true }, kinds := [], alts := [], laidByText := true, laidKinds := [.data], laidTests := true, laidLooks := .later }
def RegistryNamesCardSaid : Prop := Claim7.holds Tryz.pinned (.plain (OpenSpec.ofChange registryNamesSpec)) registryNamesCard

/-- THE SECOND FORM's CARD OF 'erratalaw17.RegistryOnce'. -/
def registryOnceUptoCard : Claim7 := { stood := { row := registryOnceUptoRow, standIns := [], harness := (true, "1baa0dfcea351fd5409a95e94e0a9f59a372cb67f82f7e49ca58058770165cc7"), looks := true }, kinds := [], alts := [], laidByText := true, laidKinds := [.data], laidTests := true, laidLooks := .later }
def RegistryOnceUptoCardSaid : Prop := Claim7.holds Tryz.pinned (.plain (OpenSpec.upto registryOnceSpec)) registryOnceUptoCard

/-- THE SECOND FORM's CARD OF 'erratalaw17.RegistryFull'. -/
def registryFullUptoCard : Claim7 := { stood := { row := registryFullUptoRow, standIns := [], harness := (true, "1baa0dfcea351fd5409a95e94e0a9f59a372cb67f82f7e49ca58058770165cc7"), looks := true }, kinds := [], alts := [], laidByText := true, laidKinds := [.data], laidTests := true, laidLooks := .later }
def RegistryFullUptoCardSaid : Prop := Claim7.holds Tryz.pinned (.plain (OpenSpec.upto registryFullSpec)) registryFullUptoCard

/-- THE SECOND FORM's CARD OF 'erratalaw17.RegistryNames'. -/
def registryNamesUptoCard : Claim7 := { stood := { row := registryNamesUptoRow, standIns := [], harness := (true, "1baa0dfcea351fd5409a95e94e0a9f59a372cb67f82f7e49ca58058770165cc7"), looks := true }, kinds := [], alts := [], laidByText := true, laidKinds := [.data], laidTests := true, laidLooks := .later }
def RegistryNamesUptoCardSaid : Prop := Claim7.holds Tryz.pinned (.plain (OpenSpec.upto registryNamesSpec)) registryNamesUptoCard
end Rows
end Go.Proofs.YtacijlfckmllcaaGreatDoor
