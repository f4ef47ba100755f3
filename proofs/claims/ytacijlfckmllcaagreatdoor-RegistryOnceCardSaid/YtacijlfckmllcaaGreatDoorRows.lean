/-
  NARROWER THAN 'FOR EVERY INPUT', by the rows' own cells (each row's printed sentence says how): RegistryOnce: laid · RegistryFull: laid · RegistryNames: laid.
  DERIVED. THE GIVEN ROWS OF THIS SEAT. 3 by the template 'for every input the law returns true; each argument reads behind the call as it read before'; 0 by the template 'total and deterministic' (their statements: YtacijlfckmllcaaGreatDoorTotals.lean).
  GIVEN WITH THE SEED: the statements are not yours to turn. If you find one false, say at which input.
  Laid BY PROGRAM, IN A SANDBOX (cutbox-rows.mjs): the forced cells as the released guide's own fill.sh prints them over the translation 1bdef861cd153a3f… (all of the seat's roots in one cut). By AI agents, Wed Nov 11 2026. No macro, syntax, notation, axiom, sorry.
-/
import Derived.Test.YtacijlfckmllcaaGreatDoorChecked
import GoSem.Claim
import GoSem.ClaimJoined
import GoSem.ClaimMapViews
import Derived.JoinedTies
import Derived.KernelRfl
namespace Go.Proofs.YtacijlfckmllcaaGreatDoor
/- THE CELL 'sum', in the pinned program and in every row, IS THE sha256 OF THE DUMP (.gsa) THAT YtacijlfckmllcaaGreatDoorProg.lean LOADS. Nothing in Lean hashes anything: it is a label: what it is worth is what the hold of that sum in a sandbox is worth. -/
noncomputable def Tryz.pinned : Pinned := { name := "ytacijlfckmllcaagreatdoor", sum := "1bdef861cd153a3fc69765f4e58693a1392941d1d742d15c8037f1ee68f564be", checked := Tryz.checked }
namespace Rows
def none {H : Type} : Left H := { results := [], args := [] }

/- WHAT THE LISTED PACKAGE-LEVEL VARIABLES READ AS WHEN THE CALL BEGINS. Each datum BY PROGRAM (the guide's laid-datum.mjs) off the statement by which the dump's own 'gosem.cut.vars' lays the variable. In a bare row this is a premise. The card (YtacijlfckmllcaaGreatDoorCards.lean) ties it to the program's text. -/
def laid_errata_registry_entered {H : Type} : DataW H := .agg [.lit (.int .u8 2), .lit (.int .u8 1), .lit (.int .u8 3), .lit (.int .u8 11), .lit (.int .u8 19), .lit (.int .u8 9), .lit (.int .u8 10), .lit (.int .u8 14), .lit (.int .u8 16), .lit (.int .u8 21), .lit (.int .u8 22), .lit (.int .u8 24), .lit (.int .u8 26), .lit (.int .u8 9), .lit (.int .u8 4), .lit (.int .u8 5), .lit (.int .u8 6), .lit (.int .u8 7), .lit (.int .u8 8), .lit (.int .u8 12), .lit (.int .u8 13), .lit (.int .u8 15), .lit (.int .u8 17), .lit (.int .u8 18), .lit (.int .u8 20), .lit (.int .u8 23), .lit (.int .u8 25), .lit (.int .u8 2), .lit (.int .u8 1), .lit (.int .u8 15), .lit (.int .u8 25)]

/-- 'erratalaw17.RegistryOnce': WHATEVER THE INPUT: true; the input reads as it did. -/
def registryOnceSpec : ChangeSpec := { name := "registryOnce", fn := fun _ => fun
  | [d1, d2] => { results := [.lit (.bool true)], args := [d1, d2] }
  | _ => none }
def registryOnceRow : OpenClaim := { program := "ytacijlfckmllcaagreatdoor", sum := "1bdef861cd153a3fc69765f4e58693a1392941d1d742d15c8037f1ee68f564be", func := "errata/erratalaw17.RegistryOnce", spec := "registryOnce", inPlace := ["(*internal/sync.Mutex).Lock", "internal/race.Disable", "sync/atomic.CompareAndSwapInt32", "internal/race.Enable", "internal/race.Acquire", "(*internal/sync.Mutex).lockSlow", "internal/sync.runtime_canSpin", "internal/sync.runtime_doSpin", "internal/sync.throw", "internal/sync.runtime_nanotime", "internal/sync.runtime_SemacquireMutex", "sync/atomic.AddInt32", "(*internal/sync.Mutex).Unlock", "internal/race.ReleaseMerge", "(*internal/sync.Mutex).unlockSlow", "internal/sync.fatal", "internal/sync.runtime_Semrelease", "sync/atomic.LoadUint32", "sync/atomic.StoreUint32"], unfollowed := true, recurses := true, named := ["errata/registry.entered"], apart := false, laid := [("errata/registry.entered", laid_errata_registry_entered)] }
def RegistryOnceSaid : Prop := registryOnceRow.holds Tryz.pinned (OpenSpec.ofChange registryOnceSpec)

/-- ITS FALSE NEIGHBOUR: 'it returns false'. Refute it at one input. -/
def registryOnceWrong : ChangeSpec := { name := "registryOnce", fn := fun _ => fun
  | [d1, d2] => { results := [.lit (.bool false)], args := [d1, d2] }
  | _ => none }
def RegistryOnceWrongFalsely : Prop := registryOnceRow.holds Tryz.pinned (OpenSpec.ofChange registryOnceWrong)

/-- 'erratalaw17.RegistryFull': WHATEVER THE INPUT: true; the input reads as it did. -/
def registryFullSpec : ChangeSpec := { name := "registryFull", fn := fun _ => fun
  | [] => { results := [.lit (.bool true)], args := [] }
  | _ => none }
def registryFullRow : OpenClaim := { program := "ytacijlfckmllcaagreatdoor", sum := "1bdef861cd153a3fc69765f4e58693a1392941d1d742d15c8037f1ee68f564be", func := "errata/erratalaw17.RegistryFull", spec := "registryFull", inPlace := ["(*internal/sync.Mutex).Lock", "internal/race.Disable", "sync/atomic.CompareAndSwapInt32", "internal/race.Enable", "internal/race.Acquire", "(*internal/sync.Mutex).lockSlow", "internal/sync.runtime_canSpin", "internal/sync.runtime_doSpin", "internal/sync.throw", "internal/sync.runtime_nanotime", "internal/sync.runtime_SemacquireMutex", "sync/atomic.AddInt32", "(*internal/sync.Mutex).Unlock", "internal/race.ReleaseMerge", "(*internal/sync.Mutex).unlockSlow", "internal/sync.fatal", "internal/sync.runtime_Semrelease", "sync/atomic.LoadUint32", "sync/atomic.StoreUint32"], unfollowed := true, recurses := true, named := ["errata/registry.entered"], apart := false, laid := [("errata/registry.entered", laid_errata_registry_entered)] }
def RegistryFullSaid : Prop := registryFullRow.holds Tryz.pinned (OpenSpec.ofChange registryFullSpec)

/-- ITS FALSE NEIGHBOUR: 'it returns false'. Refute it at one input. -/
def registryFullWrong : ChangeSpec := { name := "registryFull", fn := fun _ => fun
  | [] => { results := [.lit (.bool false)], args := [] }
  | _ => none }
def RegistryFullWrongFalsely : Prop := registryFullRow.holds Tryz.pinned (OpenSpec.ofChange registryFullWrong)

/-- 'erratalaw17.RegistryNames': WHATEVER THE INPUT: true; the input reads as it did. -/
def registryNamesSpec : ChangeSpec := { name := "registryNames", fn := fun _ => fun
  | [] => { results := [.lit (.bool true)], args := [] }
  | _ => none }
def registryNamesRow : OpenClaim := { program := "ytacijlfckmllcaagreatdoor", sum := "1bdef861cd153a3fc69765f4e58693a1392941d1d742d15c8037f1ee68f564be", func := "errata/erratalaw17.RegistryNames", spec := "registryNames", inPlace := ["(*internal/sync.Mutex).Lock", "internal/race.Disable", "sync/atomic.CompareAndSwapInt32", "internal/race.Enable", "internal/race.Acquire", "(*internal/sync.Mutex).lockSlow", "internal/sync.runtime_canSpin", "internal/sync.runtime_doSpin", "internal/sync.throw", "internal/sync.runtime_nanotime", "internal/sync.runtime_SemacquireMutex", "sync/atomic.AddInt32", "(*internal/sync.Mutex).Unlock", "internal/race.ReleaseMerge", "(*internal/sync.Mutex).unlockSlow", "internal/sync.fatal", "internal/sync.runtime_Semrelease", "sync/atomic.LoadUint32", "sync/atomic.StoreUint32"], unfollowed := true, recurses := true, named := ["errata/registry.entered"], apart := false, laid := [("errata/registry.entered", laid_errata_registry_entered)] }
def RegistryNamesSaid : Prop := registryNamesRow.holds Tryz.pinned (OpenSpec.ofChange registryNamesSpec)

/-- ITS FALSE NEIGHBOUR: 'it returns false'. Refute it at one input. -/
def registryNamesWrong : ChangeSpec := { name := "registryNames", fn := fun _ => fun
  | [] => { results := [.lit (.bool false)], args := [] }
  | _ => none }
def RegistryNamesWrongFalsely : Prop := registryNamesRow.holds Tryz.pinned (OpenSpec.ofChange registryNamesWrong)

/- THE SECOND FORM. 'bulk': how many values and letters a reading holds, each counted each time it is reached (what is shared counts as often as it is met; a slice's spare places count too). A statement '..UptoSaid' is the law's where the arguments, and the package variables that the reading takes, are together of bulk at most 1048576: NARROWER than '..Said'. Prove '..Said' where nothing that the law and all that it calls make is longer than what came in: it says more and counts as full. Else prove '..UptoSaid'. A law counts once. -/
mutual
def uptoBulk {H : Type} : DataW H → Nat
  | .lit (.string bytes) => bytes.length + 1
  | .lit _ => 1
  | .nil => 1
  | .ptr d => uptoBulk d + 1
  | .slice elems spare => uptoBulkAll elems + uptoBulkAll spare + 1
  | .agg parts => uptoBulkAll parts + 1
  | .iface _ d => uptoBulk d + 1
  | .map entries => uptoBulkEntries entries + 1
  | .held _ => 1
def uptoBulkAll {H : Type} : List (DataW H) → Nat
  | [] => 0
  | d :: r => uptoBulk d + uptoBulkAll r
def uptoBulkEntries {H : Type} : List (Lit × DataW H) → Nat
  | [] => 0
  | x :: r => uptoBulkEntry x + uptoBulkEntries r
def uptoBulkEntry {H : Type} : Lit × DataW H → Nat
  | (.string bytes, d) => bytes.length + uptoBulk d + 1
  | (_, d) => uptoBulk d + 1
 end
def uptoSmall : (H : Type) → List (DataW H) → Bool := fun _ ds => decide (uptoBulkAll ds ≤ 1048576)
def OpenSpec.upto (s : _root_.Go.ChangeSpec) : _root_.Go.OpenSpec := { _root_.Go.OpenSpec.ofChange s with cond := some uptoSmall }

/-- 'erratalaw17.RegistryOnce', WHERE WHAT IT READS IS OF BULK AT MOST 1048576: true; the input reads as it did. -/
def registryOnceUptoRow : OpenClaim := { program := "ytacijlfckmllcaagreatdoor", sum := "1bdef861cd153a3fc69765f4e58693a1392941d1d742d15c8037f1ee68f564be", func := "errata/erratalaw17.RegistryOnce", spec := "registryOnce", inPlace := ["(*internal/sync.Mutex).Lock", "internal/race.Disable", "sync/atomic.CompareAndSwapInt32", "internal/race.Enable", "internal/race.Acquire", "(*internal/sync.Mutex).lockSlow", "internal/sync.runtime_canSpin", "internal/sync.runtime_doSpin", "internal/sync.throw", "internal/sync.runtime_nanotime", "internal/sync.runtime_SemacquireMutex", "sync/atomic.AddInt32", "(*internal/sync.Mutex).Unlock", "internal/race.ReleaseMerge", "(*internal/sync.Mutex).unlockSlow", "internal/sync.fatal", "internal/sync.runtime_Semrelease", "sync/atomic.LoadUint32", "sync/atomic.StoreUint32"], unfollowed := true, recurses := true, named := ["errata/registry.entered"], apart := false, laid := [("errata/registry.entered", laid_errata_registry_entered)], narrowed := true }
def RegistryOnceUptoSaid : Prop := registryOnceUptoRow.holds Tryz.pinned (OpenSpec.upto registryOnceSpec)

/-- 'erratalaw17.RegistryFull', WHERE WHAT IT READS IS OF BULK AT MOST 1048576: true; the input reads as it did. -/
def registryFullUptoRow : OpenClaim := { program := "ytacijlfckmllcaagreatdoor", sum := "1bdef861cd153a3fc69765f4e58693a1392941d1d742d15c8037f1ee68f564be", func := "errata/erratalaw17.RegistryFull", spec := "registryFull", inPlace := ["(*internal/sync.Mutex).Lock", "internal/race.Disable", "sync/atomic.CompareAndSwapInt32", "internal/race.Enable", "internal/race.Acquire", "(*internal/sync.Mutex).lockSlow", "internal/sync.runtime_canSpin", "internal/sync.runtime_doSpin", "internal/sync.throw", "internal/sync.runtime_nanotime", "internal/sync.runtime_SemacquireMutex", "sync/atomic.AddInt32", "(*internal/sync.Mutex).Unlock", "internal/race.ReleaseMerge", "(*internal/sync.Mutex).unlockSlow", "internal/sync.fatal", "internal/sync.runtime_Semrelease", "sync/atomic.LoadUint32", "sync/atomic.StoreUint32"], unfollowed := true, recurses := true, named := ["errata/registry.entered"], apart := false, laid := [("errata/registry.entered", laid_errata_registry_entered)], narrowed := true }
def RegistryFullUptoSaid : Prop := registryFullUptoRow.holds Tryz.pinned (OpenSpec.upto registryFullSpec)

/-- 'erratalaw17.RegistryNames', WHERE WHAT IT READS IS OF BULK AT MOST 1048576: true; the input reads as it did. -/
def registryNamesUptoRow : OpenClaim := { program := "ytacijlfckmllcaagreatdoor", sum := "1bdef861cd153a3fc69765f4e58693a1392941d1d742d15c8037f1ee68f564be", func := "errata/erratalaw17.RegistryNames", spec := "registryNames", inPlace := ["(*internal/sync.Mutex).Lock", "internal/race.Disable", "sync/atomic.CompareAndSwapInt32", "internal/race.Enable", "internal/race.Acquire", "(*internal/sync.Mutex).lockSlow", "internal/sync.runtime_canSpin", "internal/sync.runtime_doSpin", "internal/sync.throw", "internal/sync.runtime_nanotime", "internal/sync.runtime_SemacquireMutex", "sync/atomic.AddInt32", "(*internal/sync.Mutex).Unlock", "internal/race.ReleaseMerge", "(*internal/sync.Mutex).unlockSlow", "internal/sync.fatal", "internal/sync.runtime_Semrelease", "sync/atomic.LoadUint32", "sync/atomic.StoreUint32"], unfollowed := true, recurses := true, named := ["errata/registry.entered"], apart := false, laid := [("errata/registry.entered", laid_errata_registry_entered)], narrowed := true }
def RegistryNamesUptoSaid : Prop := registryNamesUptoRow.holds Tryz.pinned (OpenSpec.upto registryNamesSpec)

end Rows
end Go.Proofs.YtacijlfckmllcaaGreatDoor
