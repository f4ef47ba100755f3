/-
  No cell of these rows narrows 'for every input' (looked for: loops, veiled, ifaces, maps, wideKeys, modest, calm, conditions, laid).
  DERIVED. THE GIVEN ROWS OF THIS SEAT. 8 by the template 'for every input the law returns true; each argument reads behind the call as it read before'; 0 by the template 'total and deterministic' (their statements: YthbeednmekajaaaTotals.lean).
  GIVEN WITH THE SEED: the statements are not yours to turn. If you find one false, say at which input.
  Laid BY PROGRAM, IN A SANDBOX (cutbox-rows.mjs): the forced cells as the released guide's own fill.sh prints them over the translation 1224b2becbdc7e21… (all of the seat's roots in one cut). By AI agents, Wed Nov 11 2026. No macro, syntax, notation, axiom, sorry.
-/
import Derived.Test.YthbeednmekajaaaChecked
import GoSem.Claim
import GoSem.ClaimJoined
import GoSem.ClaimMapViews
import Derived.JoinedTies
import Derived.KernelRfl
namespace Go.Proofs.Ythbeednmekajaaa
/- THE CELL 'sum', in the pinned program and in every row, IS THE sha256 OF THE DUMP (.gsa) THAT YthbeednmekajaaaProg.lean LOADS. Nothing in Lean hashes anything: it is a label: what it is worth is what the hold of that sum in a sandbox is worth. -/
noncomputable def Try.pinned : Pinned := { name := "ythbeednmekajaaa", sum := "1224b2becbdc7e2176a5350a98993354c3d376cecac04377eabb0251390d7522", checked := Try.checked }
namespace Rows
def none {H : Type} : Left H := { results := [], args := [] }

/-- 'erratalaw25.BreakerMeters': WHATEVER THE INPUT: true; the input reads as it did. -/
def breakerMetersSpec : ChangeSpec := { name := "breakerMeters", fn := fun _ => fun
  | [d1, d2, d3, d4] => { results := [.lit (.bool true)], args := [d1, d2, d3, d4] }
  | _ => none }
def breakerMetersRow : OpenClaim := { program := "ythbeednmekajaaa", sum := "1224b2becbdc7e2176a5350a98993354c3d376cecac04377eabb0251390d7522", func := "errata/erratalaw25.BreakerMeters", spec := "breakerMeters", inPlace := ["math.Float64frombits", "math.Float64bits"], apart := false }
def BreakerMetersSaid : Prop := breakerMetersRow.holds Try.pinned (OpenSpec.ofChange breakerMetersSpec)

/-- ITS FALSE NEIGHBOUR: 'it returns false'. Refute it at one input. -/
def breakerMetersWrong : ChangeSpec := { name := "breakerMeters", fn := fun _ => fun
  | [d1, d2, d3, d4] => { results := [.lit (.bool false)], args := [d1, d2, d3, d4] }
  | _ => none }
def BreakerMetersWrongFalsely : Prop := breakerMetersRow.holds Try.pinned (OpenSpec.ofChange breakerMetersWrong)

/-- 'erratalaw25.BreakerPlays': WHATEVER THE INPUT: true; the input reads as it did. -/
def breakerPlaysSpec : ChangeSpec := { name := "breakerPlays", fn := fun _ => fun
  | [d1, d2, d3] => { results := [.lit (.bool true)], args := [d1, d2, d3] }
  | _ => none }
def breakerPlaysRow : OpenClaim := { program := "ythbeednmekajaaa", sum := "1224b2becbdc7e2176a5350a98993354c3d376cecac04377eabb0251390d7522", func := "errata/erratalaw25.BreakerPlays", spec := "breakerPlays", inPlace := ["sync/atomic.CompareAndSwapUint64", "sync/atomic.LoadUint64"], apart := false }
def BreakerPlaysSaid : Prop := breakerPlaysRow.holds Try.pinned (OpenSpec.ofChange breakerPlaysSpec)

/-- ITS FALSE NEIGHBOUR: 'it returns false'. Refute it at one input. -/
def breakerPlaysWrong : ChangeSpec := { name := "breakerPlays", fn := fun _ => fun
  | [d1, d2, d3] => { results := [.lit (.bool false)], args := [d1, d2, d3] }
  | _ => none }
def BreakerPlaysWrongFalsely : Prop := breakerPlaysRow.holds Try.pinned (OpenSpec.ofChange breakerPlaysWrong)

/-- 'erratalaw25.BreakerProbes': WHATEVER THE INPUT: true; the input reads as it did. -/
def breakerProbesSpec : ChangeSpec := { name := "breakerProbes", fn := fun _ => fun
  | [d1, d2] => { results := [.lit (.bool true)], args := [d1, d2] }
  | _ => none }
def breakerProbesRow : OpenClaim := { program := "ythbeednmekajaaa", sum := "1224b2becbdc7e2176a5350a98993354c3d376cecac04377eabb0251390d7522", func := "errata/erratalaw25.BreakerProbes", spec := "breakerProbes", inPlace := ["sync/atomic.CompareAndSwapUint64", "sync/atomic.LoadUint64"], apart := false }
def BreakerProbesSaid : Prop := breakerProbesRow.holds Try.pinned (OpenSpec.ofChange breakerProbesSpec)

/-- ITS FALSE NEIGHBOUR: 'it returns false'. Refute it at one input. -/
def breakerProbesWrong : ChangeSpec := { name := "breakerProbes", fn := fun _ => fun
  | [d1, d2] => { results := [.lit (.bool false)], args := [d1, d2] }
  | _ => none }
def BreakerProbesWrongFalsely : Prop := breakerProbesRow.holds Try.pinned (OpenSpec.ofChange breakerProbesWrong)

/-- 'erratalaw25.BreakerRaces': WHATEVER THE INPUT: true; the input reads as it did. -/
def breakerRacesSpec : ChangeSpec := { name := "breakerRaces", fn := fun _ => fun
  | [d1, d2, d3] => { results := [.lit (.bool true)], args := [d1, d2, d3] }
  | _ => none }
def breakerRacesRow : OpenClaim := { program := "ythbeednmekajaaa", sum := "1224b2becbdc7e2176a5350a98993354c3d376cecac04377eabb0251390d7522", func := "errata/erratalaw25.BreakerRaces", spec := "breakerRaces", inPlace := ["sync/atomic.CompareAndSwapUint64", "sync/atomic.LoadUint64"], apart := false }
def BreakerRacesSaid : Prop := breakerRacesRow.holds Try.pinned (OpenSpec.ofChange breakerRacesSpec)

/-- ITS FALSE NEIGHBOUR: 'it returns false'. Refute it at one input. -/
def breakerRacesWrong : ChangeSpec := { name := "breakerRaces", fn := fun _ => fun
  | [d1, d2, d3] => { results := [.lit (.bool false)], args := [d1, d2, d3] }
  | _ => none }
def BreakerRacesWrongFalsely : Prop := breakerRacesRow.holds Try.pinned (OpenSpec.ofChange breakerRacesWrong)

/-- 'erratalaw25.BreakerNames': WHATEVER THE INPUT: true; the input reads as it did. -/
def breakerNamesSpec : ChangeSpec := { name := "breakerNames", fn := fun _ => fun
  | [] => { results := [.lit (.bool true)], args := [] }
  | _ => none }
def breakerNamesRow : OpenClaim := { program := "ythbeednmekajaaa", sum := "1224b2becbdc7e2176a5350a98993354c3d376cecac04377eabb0251390d7522", func := "errata/erratalaw25.BreakerNames", spec := "breakerNames", inPlace := ["sync/atomic.CompareAndSwapUint64", "sync/atomic.LoadUint64", "math.Float64frombits", "math.Float64bits"], apart := false }
def BreakerNamesSaid : Prop := breakerNamesRow.holds Try.pinned (OpenSpec.ofChange breakerNamesSpec)

/-- ITS FALSE NEIGHBOUR: 'it returns false'. Refute it at one input. -/
def breakerNamesWrong : ChangeSpec := { name := "breakerNames", fn := fun _ => fun
  | [] => { results := [.lit (.bool false)], args := [] }
  | _ => none }
def BreakerNamesWrongFalsely : Prop := breakerNamesRow.holds Try.pinned (OpenSpec.ofChange breakerNamesWrong)

/-- 'erratalaw25.BreakerOrder': WHATEVER THE INPUT: true; the input reads as it did. -/
def breakerOrderSpec : ChangeSpec := { name := "breakerOrder", fn := fun _ => fun
  | [d1, d2, d3] => { results := [.lit (.bool true)], args := [d1, d2, d3] }
  | _ => none }
def breakerOrderRow : OpenClaim := { program := "ythbeednmekajaaa", sum := "1224b2becbdc7e2176a5350a98993354c3d376cecac04377eabb0251390d7522", func := "errata/erratalaw25.BreakerOrder", spec := "breakerOrder", inPlace := ["sync/atomic.CompareAndSwapUint64", "sync/atomic.LoadUint64"], apart := false }
def BreakerOrderSaid : Prop := breakerOrderRow.holds Try.pinned (OpenSpec.ofChange breakerOrderSpec)

/-- ITS FALSE NEIGHBOUR: 'it returns false'. Refute it at one input. -/
def breakerOrderWrong : ChangeSpec := { name := "breakerOrder", fn := fun _ => fun
  | [d1, d2, d3] => { results := [.lit (.bool false)], args := [d1, d2, d3] }
  | _ => none }
def BreakerOrderWrongFalsely : Prop := breakerOrderRow.holds Try.pinned (OpenSpec.ofChange breakerOrderWrong)

/-- 'erratalaw25.BreakerStorms': WHATEVER THE INPUT: true; the input reads as it did. -/
def breakerStormsSpec : ChangeSpec := { name := "breakerStorms", fn := fun _ => fun
  | [d1, d2, d3, d4] => { results := [.lit (.bool true)], args := [d1, d2, d3, d4] }
  | _ => none }
def breakerStormsRow : OpenClaim := { program := "ythbeednmekajaaa", sum := "1224b2becbdc7e2176a5350a98993354c3d376cecac04377eabb0251390d7522", func := "errata/erratalaw25.BreakerStorms", spec := "breakerStorms", inPlace := ["sync/atomic.CompareAndSwapUint64", "sync/atomic.LoadUint64", "(*sync.WaitGroup).Add", "internal/race.ReleaseMerge", "internal/race.Disable", "internal/race.Enable", "internal/synctest.IsInBubble", "internal/synctest.Associate[sync.WaitGroup]", "sync.fatal", "sync/atomic.OrUint64", "sync/atomic.AddUint64", "internal/race.Read", "sync/atomic.StoreUint64", "internal/synctest.Disassociate[sync.WaitGroup]", "sync.runtime_Semrelease", "(*sync.WaitGroup).Done", "sync/atomic.AddInt64", "(*sync.WaitGroup).Wait", "internal/race.Acquire", "internal/synctest.IsAssociated[sync.WaitGroup]", "internal/race.Write", "sync.runtime_SemacquireWaitGroup"], unfollowed := true, recurses := true, leaving := true, apart := false }
def BreakerStormsSaid : Prop := breakerStormsRow.holds Try.pinned (OpenSpec.ofChange breakerStormsSpec)

/-- ITS FALSE NEIGHBOUR: 'it returns false'. Refute it at one input. -/
def breakerStormsWrong : ChangeSpec := { name := "breakerStorms", fn := fun _ => fun
  | [d1, d2, d3, d4] => { results := [.lit (.bool false)], args := [d1, d2, d3, d4] }
  | _ => none }
def BreakerStormsWrongFalsely : Prop := breakerStormsRow.holds Try.pinned (OpenSpec.ofChange breakerStormsWrong)

/-- 'erratalaw25.BreakerCounts': WHATEVER THE INPUT: true; the input reads as it did. -/
def breakerCountsSpec : ChangeSpec := { name := "breakerCounts", fn := fun _ => fun
  | [d1, d2, d3, d4] => { results := [.lit (.bool true)], args := [d1, d2, d3, d4] }
  | _ => none }
def breakerCountsRow : OpenClaim := { program := "ythbeednmekajaaa", sum := "1224b2becbdc7e2176a5350a98993354c3d376cecac04377eabb0251390d7522", func := "errata/erratalaw25.BreakerCounts", spec := "breakerCounts", inPlace := ["sync/atomic.CompareAndSwapUint64", "sync/atomic.LoadUint64", "(*sync.WaitGroup).Add", "internal/race.ReleaseMerge", "internal/race.Disable", "internal/race.Enable", "internal/synctest.IsInBubble", "internal/synctest.Associate[sync.WaitGroup]", "sync.fatal", "sync/atomic.OrUint64", "sync/atomic.AddUint64", "internal/race.Read", "sync/atomic.StoreUint64", "internal/synctest.Disassociate[sync.WaitGroup]", "sync.runtime_Semrelease", "(*sync.WaitGroup).Done", "sync/atomic.AddInt64", "(*sync.WaitGroup).Wait", "internal/race.Acquire", "internal/synctest.IsAssociated[sync.WaitGroup]", "internal/race.Write", "sync.runtime_SemacquireWaitGroup"], unfollowed := true, recurses := true, leaving := true, apart := false }
def BreakerCountsSaid : Prop := breakerCountsRow.holds Try.pinned (OpenSpec.ofChange breakerCountsSpec)

/-- ITS FALSE NEIGHBOUR: 'it returns false'. Refute it at one input. -/
def breakerCountsWrong : ChangeSpec := { name := "breakerCounts", fn := fun _ => fun
  | [d1, d2, d3, d4] => { results := [.lit (.bool false)], args := [d1, d2, d3, d4] }
  | _ => none }
def BreakerCountsWrongFalsely : Prop := breakerCountsRow.holds Try.pinned (OpenSpec.ofChange breakerCountsWrong)

/- THE SECOND FORM. 'bulk': how many values and letters a reading holds, each counted each time it is reached (what is shared counts as often as it is met; a slice's spare places count too). A statement '..UptoSaid' is the law's where the arguments, and the package variables that the reading takes, are together of bulk at most 1048576: NARROWER than '..Said'. Prove '..Said' where nothing that the law and all that it calls make is longer than what came in: it says more and counts as full. Else prove '..UptoSaid'. A law counts once. -/
mutual
def uptoBulk {H : Type} : DataW H → Nat
  | .lit (.string bytes) => bytes.length + 1
  | .lit _ => 1
  | .nil => 1
  | .ptr d => uptoBulk d + 1
  | .slice elems spare => uptoBulkAll elems + uptoBulkAll spare + 1
  | .agg parts => uptoBulkAll parts + 1
  | .iface _ d => uptoBulk d + 1
  | .map entries => uptoBulkEntries entries + 1
  | .held _ => 1
def uptoBulkAll {H : Type} : List (DataW H) → Nat
  | [] => 0
  | d :: r => uptoBulk d + uptoBulkAll r
def uptoBulkEntries {H : Type} : List (Lit × DataW H) → Nat
  | [] => 0
  | x :: r => uptoBulkEntry x + uptoBulkEntries r
def uptoBulkEntry {H : Type} : Lit × DataW H → Nat
  | (.string bytes, d) => bytes.length + uptoBulk d + 1
  | (_, d) => uptoBulk d + 1
 end
def uptoSmall : (H : Type) → List (DataW H) → Bool := fun _ ds => decide (uptoBulkAll ds ≤ 1048576)
def OpenSpec.upto (s : _root_.Go.ChangeSpec) : _root_.Go.OpenSpec := { _root_.Go.OpenSpec.ofChange s with cond := some uptoSmall }

/-- 'erratalaw25.BreakerMeters', WHERE WHAT IT READS IS OF BULK AT MOST 1048576: true; the input reads as it did. -/
def breakerMetersUptoRow : OpenClaim := { program := "ythbeednmekajaaa", sum := "1224b2becbdc7e2176a5350a98993354c3d376cecac04377eabb0251390d7522", func := "errata/erratalaw25.BreakerMeters", spec := "breakerMeters", inPlace := ["math.Float64frombits", "math.Float64bits"], apart := false, narrowed := true }
def BreakerMetersUptoSaid : Prop := breakerMetersUptoRow.holds Try.pinned (OpenSpec.upto breakerMetersSpec)

/-- 'erratalaw25.BreakerPlays', WHERE WHAT IT READS IS OF BULK AT MOST 1048576: true; the input reads as it did. -/
def breakerPlaysUptoRow : OpenClaim := { program := "ythbeednmekajaaa", sum := "1224b2becbdc7e2176a5350a98993354c3d376cecac04377eabb0251390d7522", func := "errata/erratalaw25.BreakerPlays", spec := "breakerPlays", inPlace := ["sync/atomic.CompareAndSwapUint64", "sync/atomic.LoadUint64"], apart := false, narrowed := true }
def BreakerPlaysUptoSaid : Prop := breakerPlaysUptoRow.holds Try.pinned (OpenSpec.upto breakerPlaysSpec)

/-- 'erratalaw25.BreakerProbes', WHERE WHAT IT READS IS OF BULK AT MOST 1048576: true; the input reads as it did. -/
def breakerProbesUptoRow : OpenClaim := { program := "ythbeednmekajaaa", sum := "1224b2becbdc7e2176a5350a98993354c3d376cecac04377eabb0251390d7522", func := "errata/erratalaw25.BreakerProbes", spec := "breakerProbes", inPlace := ["sync/atomic.CompareAndSwapUint64", "sync/atomic.LoadUint64"], apart := false, narrowed := true }
def BreakerProbesUptoSaid : Prop := breakerProbesUptoRow.holds Try.pinned (OpenSpec.upto breakerProbesSpec)

/-- 'erratalaw25.BreakerRaces', WHERE WHAT IT READS IS OF BULK AT MOST 1048576: true; the input reads as it did. -/
def breakerRacesUptoRow : OpenClaim := { program := "ythbeednmekajaaa", sum := "1224b2becbdc7e2176a5350a98993354c3d376cecac04377eabb0251390d7522", func := "errata/erratalaw25.BreakerRaces", spec := "breakerRaces", inPlace := ["sync/atomic.CompareAndSwapUint64", "sync/atomic.LoadUint64"], apart := false, narrowed := true }
def BreakerRacesUptoSaid : Prop := breakerRacesUptoRow.holds Try.pinned (OpenSpec.upto breakerRacesSpec)

/-- 'erratalaw25.BreakerNames', WHERE WHAT IT READS IS OF BULK AT MOST 1048576: true; the input reads as it did. -/
def breakerNamesUptoRow : OpenClaim := { program := "ythbeednmekajaaa", sum := "1224b2becbdc7e2176a5350a98993354c3d376cecac04377eabb0251390d7522", func := "errata/erratalaw25.BreakerNames", spec := "breakerNames", inPlace := ["sync/atomic.CompareAndSwapUint64", "sync/atomic.LoadUint64", "math.Float64frombits", "math.Float64bits"], apart := false, narrowed := true }
def BreakerNamesUptoSaid : Prop := breakerNamesUptoRow.holds Try.pinned (OpenSpec.upto breakerNamesSpec)

/-- 'erratalaw25.BreakerOrder', WHERE WHAT IT READS IS OF BULK AT MOST 1048576: true; the input reads as it did. -/
def breakerOrderUptoRow : OpenClaim := { program := "ythbeednmekajaaa", sum := "1224b2becbdc7e2176a5350a98993354c3d376cecac04377eabb0251390d7522", func := "errata/erratalaw25.BreakerOrder", spec := "breakerOrder", inPlace := ["sync/atomic.CompareAndSwapUint64", "sync/atomic.LoadUint64"], apart := false, narrowed := true }
def BreakerOrderUptoSaid : Prop := breakerOrderUptoRow.holds Try.pinned (OpenSpec.upto breakerOrderSpec)

/-- 'erratalaw25.BreakerStorms', WHERE WHAT IT READS IS OF BULK AT MOST 1048576: true; the input reads as it did. -/
def breakerStormsUptoRow : OpenClaim := { program := "ythbeednmekajaaa", sum := "1224b2becbdc7e2176a5350a98993354c3d376cecac04377eabb0251390d7522", func := "errata/erratalaw25.BreakerStorms", spec := "breakerStorms", inPlace := ["sync/atomic.CompareAndSwapUint64", "sync/atomic.LoadUint64", "(*sync.WaitGroup).Add", "internal/race.ReleaseMerge", "internal/race.Disable", "internal/race.Enable", "internal/synctest.IsInBubble", "internal/synctest.Associate[sync.WaitGroup]", "sync.fatal", "sync/atomic.OrUint64", "sync/atomic.AddUint64", "internal/race.Read", "sync/atomic.StoreUint64", "internal/synctest.Disassociate[sync.WaitGroup]", "sync.runtime_Semrelease", "(*sync.WaitGroup).Done", "sync/atomic.AddInt64", "(*sync.WaitGroup).Wait", "internal/race.Acquire", "internal/synctest.IsAssociated[sync.WaitGroup]", "internal/race.Write", "sync.runtime_SemacquireWaitGroup"], unfollowed := true, recurses := true, leaving := true, apart := false, narrowed := true }
def BreakerStormsUptoSaid : Prop := breakerStormsUptoRow.holds Try.pinned (OpenSpec.upto breakerStormsSpec)

/-- 'erratalaw25.BreakerCounts', WHERE WHAT IT READS IS OF BULK AT MOST 1048576: true; the input reads as it did. -/
def breakerCountsUptoRow : OpenClaim := { program := "ythbeednmekajaaa", sum := "1224b2becbdc7e2176a5350a98993354c3d376cecac04377eabb0251390d7522", func := "errata/erratalaw25.BreakerCounts", spec := "breakerCounts", inPlace := ["sync/atomic.CompareAndSwapUint64", "sync/atomic.LoadUint64", "(*sync.WaitGroup).Add", "internal/race.ReleaseMerge", "internal/race.Disable", "internal/race.Enable", "internal/synctest.IsInBubble", "internal/synctest.Associate[sync.WaitGroup]", "sync.fatal", "sync/atomic.OrUint64", "sync/atomic.AddUint64", "internal/race.Read", "sync/atomic.StoreUint64", "internal/synctest.Disassociate[sync.WaitGroup]", "sync.runtime_Semrelease", "(*sync.WaitGroup).Done", "sync/atomic.AddInt64", "(*sync.WaitGroup).Wait", "internal/race.Acquire", "internal/synctest.IsAssociated[sync.WaitGroup]", "internal/race.Write", "sync.runtime_SemacquireWaitGroup"], unfollowed := true, recurses := true, leaving := true, apart := false, narrowed := true }
def BreakerCountsUptoSaid : Prop := breakerCountsUptoRow.holds Try.pinned (OpenSpec.upto breakerCountsSpec)

end Rows
end Go.Proofs.Ythbeednmekajaaa
