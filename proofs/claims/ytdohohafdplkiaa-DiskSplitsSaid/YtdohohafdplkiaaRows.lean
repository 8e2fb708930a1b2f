/-
  No cell of these rows narrows 'for every input' (looked for: loops, veiled, ifaces, maps, wideKeys, modest, calm, conditions, laid).
  DERIVED. THE GIVEN ROWS OF THIS SEAT. 6 by the template 'for every input the law returns true; each argument reads behind the call as it read before'; 0 by the template 'total and deterministic' (their statements: YtdohohafdplkiaaTotals.lean).
  GIVEN WITH THE SEED: the statements are not yours to turn. If you find one false, say at which input.
  Laid BY PROGRAM, IN A SANDBOX (cutbox-rows.mjs): the forced cells as the released guide's own fill.sh prints them over the translation d3ca4e5cb2d5e3c1… (all of the seat's roots in one cut). By AI agents, Wed Nov 11 2026. No macro, syntax, notation, axiom, sorry.
-/
import Derived.Test.YtdohohafdplkiaaChecked
import GoSem.Claim
import GoSem.ClaimJoined
import GoSem.ClaimMapViews
import Derived.JoinedTies
import Derived.KernelRfl
namespace Go.Proofs.Ytdohohafdplkiaa
/- THE CELL 'sum', in the pinned program and in every row, IS THE sha256 OF THE DUMP (.gsa) THAT YtdohohafdplkiaaProg.lean LOADS. Nothing in Lean hashes anything: it is a label: what it is worth is what the hold of that sum in a sandbox is worth. -/
noncomputable def Try.pinned : Pinned := { name := "ytdohohafdplkiaa", sum := "d3ca4e5cb2d5e3c110f4ed5b55ed096800f80a5b6270f78fb06c2dd3719befd2", checked := Try.checked }
namespace Rows
def none {H : Type} : Left H := { results := [], args := [] }

/-- 'tallyhouselaw02.DiskRuns': WHATEVER THE INPUT: true; the input reads as it did. -/
def diskRunsSpec : ChangeSpec := { name := "diskRuns", fn := fun _ => fun
  | [d1, d2] => { results := [.lit (.bool true)], args := [d1, d2] }
  | _ => none }
def diskRunsRow : OpenClaim := { program := "ytdohohafdplkiaa", sum := "d3ca4e5cb2d5e3c110f4ed5b55ed096800f80a5b6270f78fb06c2dd3719befd2", func := "tallyhouse/tallyhouselaw02.DiskRuns", spec := "diskRuns", unfollowed := true, recurses := true, apart := false }
def DiskRunsSaid : Prop := diskRunsRow.holds Try.pinned (OpenSpec.ofChange diskRunsSpec)

/-- ITS FALSE NEIGHBOUR: 'it returns false'. Refute it at one input. -/
def diskRunsWrong : ChangeSpec := { name := "diskRuns", fn := fun _ => fun
  | [d1, d2] => { results := [.lit (.bool false)], args := [d1, d2] }
  | _ => none }
def DiskRunsWrongFalsely : Prop := diskRunsRow.holds Try.pinned (OpenSpec.ofChange diskRunsWrong)

/-- 'tallyhouselaw02.DiskFails': WHATEVER THE INPUT: true; the input reads as it did. -/
def diskFailsSpec : ChangeSpec := { name := "diskFails", fn := fun _ => fun
  | [d1, d2, d3] => { results := [.lit (.bool true)], args := [d1, d2, d3] }
  | _ => none }
def diskFailsRow : OpenClaim := { program := "ytdohohafdplkiaa", sum := "d3ca4e5cb2d5e3c110f4ed5b55ed096800f80a5b6270f78fb06c2dd3719befd2", func := "tallyhouse/tallyhouselaw02.DiskFails", spec := "diskFails", unfollowed := true, recurses := true, apart := false }
def DiskFailsSaid : Prop := diskFailsRow.holds Try.pinned (OpenSpec.ofChange diskFailsSpec)

/-- ITS FALSE NEIGHBOUR: 'it returns false'. Refute it at one input. -/
def diskFailsWrong : ChangeSpec := { name := "diskFails", fn := fun _ => fun
  | [d1, d2, d3] => { results := [.lit (.bool false)], args := [d1, d2, d3] }
  | _ => none }
def DiskFailsWrongFalsely : Prop := diskFailsRow.holds Try.pinned (OpenSpec.ofChange diskFailsWrong)

/-- 'tallyhouselaw02.DiskSplits': WHATEVER THE INPUT: true; the input reads as it did. -/
def diskSplitsSpec : ChangeSpec := { name := "diskSplits", fn := fun _ => fun
  | [d1, d2, d3] => { results := [.lit (.bool true)], args := [d1, d2, d3] }
  | _ => none }
def diskSplitsRow : OpenClaim := { program := "ytdohohafdplkiaa", sum := "d3ca4e5cb2d5e3c110f4ed5b55ed096800f80a5b6270f78fb06c2dd3719befd2", func := "tallyhouse/tallyhouselaw02.DiskSplits", spec := "diskSplits", unfollowed := true, recurses := true, apart := false }
def DiskSplitsSaid : Prop := diskSplitsRow.holds Try.pinned (OpenSpec.ofChange diskSplitsSpec)

/-- ITS FALSE NEIGHBOUR: 'it returns false'. Refute it at one input. -/
def diskSplitsWrong : ChangeSpec := { name := "diskSplits", fn := fun _ => fun
  | [d1, d2, d3] => { results := [.lit (.bool false)], args := [d1, d2, d3] }
  | _ => none }
def DiskSplitsWrongFalsely : Prop := diskSplitsRow.holds Try.pinned (OpenSpec.ofChange diskSplitsWrong)

/-- 'tallyhouselaw02.DiskMakes': WHATEVER THE INPUT: true; the input reads as it did. -/
def diskMakesSpec : ChangeSpec := { name := "diskMakes", fn := fun _ => fun
  | [d1, d2] => { results := [.lit (.bool true)], args := [d1, d2] }
  | _ => none }
def diskMakesRow : OpenClaim := { program := "ytdohohafdplkiaa", sum := "d3ca4e5cb2d5e3c110f4ed5b55ed096800f80a5b6270f78fb06c2dd3719befd2", func := "tallyhouse/tallyhouselaw02.DiskMakes", spec := "diskMakes", unfollowed := true, recurses := true, apart := false }
def DiskMakesSaid : Prop := diskMakesRow.holds Try.pinned (OpenSpec.ofChange diskMakesSpec)

/-- ITS FALSE NEIGHBOUR: 'it returns false'. Refute it at one input. -/
def diskMakesWrong : ChangeSpec := { name := "diskMakes", fn := fun _ => fun
  | [d1, d2] => { results := [.lit (.bool false)], args := [d1, d2] }
  | _ => none }
def DiskMakesWrongFalsely : Prop := diskMakesRow.holds Try.pinned (OpenSpec.ofChange diskMakesWrong)

/-- 'tallyhouselaw02.DiskSynced': WHATEVER THE INPUT: true; the input reads as it did. -/
def diskSyncedSpec : ChangeSpec := { name := "diskSynced", fn := fun _ => fun
  | [d1, d2] => { results := [.lit (.bool true)], args := [d1, d2] }
  | _ => none }
def diskSyncedRow : OpenClaim := { program := "ytdohohafdplkiaa", sum := "d3ca4e5cb2d5e3c110f4ed5b55ed096800f80a5b6270f78fb06c2dd3719befd2", func := "tallyhouse/tallyhouselaw02.DiskSynced", spec := "diskSynced", unfollowed := true, recurses := true, apart := false }
def DiskSyncedSaid : Prop := diskSyncedRow.holds Try.pinned (OpenSpec.ofChange diskSyncedSpec)

/-- ITS FALSE NEIGHBOUR: 'it returns false'. Refute it at one input. -/
def diskSyncedWrong : ChangeSpec := { name := "diskSynced", fn := fun _ => fun
  | [d1, d2] => { results := [.lit (.bool false)], args := [d1, d2] }
  | _ => none }
def DiskSyncedWrongFalsely : Prop := diskSyncedRow.holds Try.pinned (OpenSpec.ofChange diskSyncedWrong)

/-- 'tallyhouselaw02.DiskDepth': WHATEVER THE INPUT: true; the input reads as it did. -/
def diskDepthSpec : ChangeSpec := { name := "diskDepth", fn := fun _ => fun
  | [d1, d2] => { results := [.lit (.bool true)], args := [d1, d2] }
  | _ => none }
def diskDepthRow : OpenClaim := { program := "ytdohohafdplkiaa", sum := "d3ca4e5cb2d5e3c110f4ed5b55ed096800f80a5b6270f78fb06c2dd3719befd2", func := "tallyhouse/tallyhouselaw02.DiskDepth", spec := "diskDepth", unfollowed := true, recurses := true, apart := false }
def DiskDepthSaid : Prop := diskDepthRow.holds Try.pinned (OpenSpec.ofChange diskDepthSpec)

/-- ITS FALSE NEIGHBOUR: 'it returns false'. Refute it at one input. -/
def diskDepthWrong : ChangeSpec := { name := "diskDepth", fn := fun _ => fun
  | [d1, d2] => { results := [.lit (.bool false)], args := [d1, d2] }
  | _ => none }
def DiskDepthWrongFalsely : Prop := diskDepthRow.holds Try.pinned (OpenSpec.ofChange diskDepthWrong)

/- THE SECOND FORM. 'bulk': how many values and letters a reading holds, each counted each time it is reached (what is shared counts as often as it is met; a slice's spare places count too). A statement '..UptoSaid' is the law's where the arguments, and the package variables that the reading takes, are together of bulk at most 1048576: NARROWER than '..Said'. Prove '..Said' where nothing that the law and all that it calls make is longer than what came in: it says more and counts as full. Else prove '..UptoSaid'. A law counts once. -/
mutual
def uptoBulk {H : Type} : DataW H → Nat
  | .lit (.string bytes) => bytes.length + 1
  | .lit _ => 1
  | .nil => 1
  | .ptr d => uptoBulk d + 1
  | .slice elems spare => uptoBulkAll elems + uptoBulkAll spare + 1
  | .agg parts => uptoBulkAll parts + 1
  | .iface _ d => uptoBulk d + 1
  | .map entries => uptoBulkEntries entries + 1
  | .held _ => 1
def uptoBulkAll {H : Type} : List (DataW H) → Nat
  | [] => 0
  | d :: r => uptoBulk d + uptoBulkAll r
def uptoBulkEntries {H : Type} : List (Lit × DataW H) → Nat
  | [] => 0
  | x :: r => uptoBulkEntry x + uptoBulkEntries r
def uptoBulkEntry {H : Type} : Lit × DataW H → Nat
  | (.string bytes, d) => bytes.length + uptoBulk d + 1
  | (_, d) => uptoBulk d + 1
 end
def uptoSmall : (H : Type) → List (DataW H) → Bool := fun _ ds => decide (uptoBulkAll ds ≤ 1048576)
def OpenSpec.upto (s : _root_.Go.ChangeSpec) : _root_.Go.OpenSpec := { _root_.Go.OpenSpec.ofChange s with cond := some uptoSmall }

/-- 'tallyhouselaw02.DiskRuns', WHERE WHAT IT READS IS OF BULK AT MOST 1048576: true; the input reads as it did. -/
def diskRunsUptoRow : OpenClaim := { program := "ytdohohafdplkiaa", sum := "d3ca4e5cb2d5e3c110f4ed5b55ed096800f80a5b6270f78fb06c2dd3719befd2", func := "tallyhouse/tallyhouselaw02.DiskRuns", spec := "diskRuns", unfollowed := true, recurses := true, apart := false, narrowed := true }
def DiskRunsUptoSaid : Prop := diskRunsUptoRow.holds Try.pinned (OpenSpec.upto diskRunsSpec)

/-- 'tallyhouselaw02.DiskFails', WHERE WHAT IT READS IS OF BULK AT MOST 1048576: true; the input reads as it did. -/
def diskFailsUptoRow : OpenClaim := { program := "ytdohohafdplkiaa", sum := "d3ca4e5cb2d5e3c110f4ed5b55ed096800f80a5b6270f78fb06c2dd3719befd2", func := "tallyhouse/tallyhouselaw02.DiskFails", spec := "diskFails", unfollowed := true, recurses := true, apart := false, narrowed := true }
def DiskFailsUptoSaid : Prop := diskFailsUptoRow.holds Try.pinned (OpenSpec.upto diskFailsSpec)

/-- 'tallyhouselaw02.DiskSplits', WHERE WHAT IT READS IS OF BULK AT MOST 1048576: true; the input reads as it did. -/
def diskSplitsUptoRow : OpenClaim := { program := "ytdohohafdplkiaa", sum := "d3ca4e5cb2d5e3c110f4ed5b55ed096800f80a5b6270f78fb06c2dd3719befd2", func := "tallyhouse/tallyhouselaw02.DiskSplits", spec := "diskSplits", unfollowed := true, recurses := true, apart := false, narrowed := true }
def DiskSplitsUptoSaid : Prop := diskSplitsUptoRow.holds Try.pinned (OpenSpec.upto diskSplitsSpec)

/-- 'tallyhouselaw02.DiskMakes', WHERE WHAT IT READS IS OF BULK AT MOST 1048576: true; the input reads as it did. -/
def diskMakesUptoRow : OpenClaim := { program := "ytdohohafdplkiaa", sum := "d3ca4e5cb2d5e3c110f4ed5b55ed096800f80a5b6270f78fb06c2dd3719befd2", func := "tallyhouse/tallyhouselaw02.DiskMakes", spec := "diskMakes", unfollowed := true, recurses := true, apart := false, narrowed := true }
def DiskMakesUptoSaid : Prop := diskMakesUptoRow.holds Try.pinned (OpenSpec.upto diskMakesSpec)

/-- 'tallyhouselaw02.DiskSynced', WHERE WHAT IT READS IS OF BULK AT MOST 1048576: true; the input reads as it did. -/
def diskSyncedUptoRow : OpenClaim := { program := "ytdohohafdplkiaa", sum := "d3ca4e5cb2d5e3c110f4ed5b55ed096800f80a5b6270f78fb06c2dd3719befd2", func := "tallyhouse/tallyhouselaw02.DiskSynced", spec := "diskSynced", unfollowed := true, recurses := true, apart := false, narrowed := true }
def DiskSyncedUptoSaid : Prop := diskSyncedUptoRow.holds Try.pinned (OpenSpec.upto diskSyncedSpec)

/-- 'tallyhouselaw02.DiskDepth', WHERE WHAT IT READS IS OF BULK AT MOST 1048576: true; the input reads as it did. -/
def diskDepthUptoRow : OpenClaim := { program := "ytdohohafdplkiaa", sum := "d3ca4e5cb2d5e3c110f4ed5b55ed096800f80a5b6270f78fb06c2dd3719befd2", func := "tallyhouse/tallyhouselaw02.DiskDepth", spec := "diskDepth", unfollowed := true, recurses := true, apart := false, narrowed := true }
def DiskDepthUptoSaid : Prop := diskDepthUptoRow.holds Try.pinned (OpenSpec.upto diskDepthSpec)

end Rows
end Go.Proofs.Ytdohohafdplkiaa
