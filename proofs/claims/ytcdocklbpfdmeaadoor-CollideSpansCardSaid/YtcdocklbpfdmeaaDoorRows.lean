/-
  NARROWER THAN 'FOR EVERY INPUT', by the rows' own cells (each row's printed sentence says how): CollideRange: laid · CollideDigests: laid · CollideClaims: laid · CollideGrowths: laid · CollideRoots: laid · CollideLeaf: laid · CollideSpans: laid · CollideOld: laid.
  DERIVED. THE GIVEN ROWS OF THIS SEAT. 8 by the template 'for every input the law returns true; each argument reads behind the call as it read before'; 0 by the template 'total and deterministic' (their statements: YtcdocklbpfdmeaaDoorTotals.lean).
  GIVEN WITH THE SEED: the statements are not yours to turn. If you find one false, say at which input.
  Laid BY PROGRAM, IN A SANDBOX (cutbox-rows.mjs): the forced cells as the released guide's own fill.sh prints them over the translation b73ad5aa40103f56… (all of the seat's roots in one cut). By AI agents, Wed Nov 11 2026. No macro, syntax, notation, axiom, sorry.
-/
import Derived.Test.YtcdocklbpfdmeaaDoorChecked
import GoSem.Claim
import GoSem.ClaimJoined
import GoSem.ClaimMapViews
import Derived.JoinedTies
import Derived.KernelRfl
namespace Go.Proofs.YtcdocklbpfdmeaaDoor
/- THE CELL 'sum', in the pinned program and in every row, IS THE sha256 OF THE DUMP (.gsa) THAT YtcdocklbpfdmeaaDoorProg.lean LOADS. Nothing in Lean hashes anything: it is a label: what it is worth is what the hold of that sum in a sandbox is worth. -/
noncomputable def Tryd.pinned : Pinned := { name := "ytcdocklbpfdmeaadoor", sum := "b73ad5aa40103f56d00c88e3faf9809e08017f77fd90605b2269a69fb6473de9", checked := Tryd.checked }
namespace Rows
def none {H : Type} : Left H := { results := [], args := [] }

/- WHAT THE LISTED PACKAGE-LEVEL VARIABLES READ AS WHEN THE CALL BEGINS. Each datum BY PROGRAM (the guide's laid-datum.mjs) off the statement by which the dump's own 'gosem.cut.vars' lays the variable. In a bare row this is a premise. The card (YtcdocklbpfdmeaaDoorCards.lean) ties it to the program's text. -/
def laid_tallyhouse_blake_start {H : Type} : DataW H := .agg [.lit (.int .u32 1779033703), .lit (.int .u32 3144134277), .lit (.int .u32 1013904242), .lit (.int .u32 2773480762), .lit (.int .u32 1359893119), .lit (.int .u32 2600822924), .lit (.int .u32 528734635), .lit (.int .u32 1541459225)]
def laid_tallyhouse_blake_orders {H : Type} : DataW H := .agg [.agg [.lit (.int .i64 0), .lit (.int .i64 1), .lit (.int .i64 2), .lit (.int .i64 3), .lit (.int .i64 4), .lit (.int .i64 5), .lit (.int .i64 6), .lit (.int .i64 7), .lit (.int .i64 8), .lit (.int .i64 9), .lit (.int .i64 10), .lit (.int .i64 11), .lit (.int .i64 12), .lit (.int .i64 13), .lit (.int .i64 14), .lit (.int .i64 15)], .agg [.lit (.int .i64 14), .lit (.int .i64 10), .lit (.int .i64 4), .lit (.int .i64 8), .lit (.int .i64 9), .lit (.int .i64 15), .lit (.int .i64 13), .lit (.int .i64 6), .lit (.int .i64 1), .lit (.int .i64 12), .lit (.int .i64 0), .lit (.int .i64 2), .lit (.int .i64 11), .lit (.int .i64 7), .lit (.int .i64 5), .lit (.int .i64 3)], .agg [.lit (.int .i64 11), .lit (.int .i64 8), .lit (.int .i64 12), .lit (.int .i64 0), .lit (.int .i64 5), .lit (.int .i64 2), .lit (.int .i64 15), .lit (.int .i64 13), .lit (.int .i64 10), .lit (.int .i64 14), .lit (.int .i64 3), .lit (.int .i64 6), .lit (.int .i64 7), .lit (.int .i64 1), .lit (.int .i64 9), .lit (.int .i64 4)], .agg [.lit (.int .i64 7), .lit (.int .i64 9), .lit (.int .i64 3), .lit (.int .i64 1), .lit (.int .i64 13), .lit (.int .i64 12), .lit (.int .i64 11), .lit (.int .i64 14), .lit (.int .i64 2), .lit (.int .i64 6), .lit (.int .i64 5), .lit (.int .i64 10), .lit (.int .i64 4), .lit (.int .i64 0), .lit (.int .i64 15), .lit (.int .i64 8)], .agg [.lit (.int .i64 9), .lit (.int .i64 0), .lit (.int .i64 5), .lit (.int .i64 7), .lit (.int .i64 2), .lit (.int .i64 4), .lit (.int .i64 10), .lit (.int .i64 15), .lit (.int .i64 14), .lit (.int .i64 1), .lit (.int .i64 11), .lit (.int .i64 12), .lit (.int .i64 6), .lit (.int .i64 8), .lit (.int .i64 3), .lit (.int .i64 13)], .agg [.lit (.int .i64 2), .lit (.int .i64 12), .lit (.int .i64 6), .lit (.int .i64 10), .lit (.int .i64 0), .lit (.int .i64 11), .lit (.int .i64 8), .lit (.int .i64 3), .lit (.int .i64 4), .lit (.int .i64 13), .lit (.int .i64 7), .lit (.int .i64 5), .lit (.int .i64 15), .lit (.int .i64 14), .lit (.int .i64 1), .lit (.int .i64 9)], .agg [.lit (.int .i64 12), .lit (.int .i64 5), .lit (.int .i64 1), .lit (.int .i64 15), .lit (.int .i64 14), .lit (.int .i64 13), .lit (.int .i64 4), .lit (.int .i64 10), .lit (.int .i64 0), .lit (.int .i64 7), .lit (.int .i64 6), .lit (.int .i64 3), .lit (.int .i64 9), .lit (.int .i64 2), .lit (.int .i64 8), .lit (.int .i64 11)], .agg [.lit (.int .i64 13), .lit (.int .i64 11), .lit (.int .i64 7), .lit (.int .i64 14), .lit (.int .i64 12), .lit (.int .i64 1), .lit (.int .i64 3), .lit (.int .i64 9), .lit (.int .i64 5), .lit (.int .i64 0), .lit (.int .i64 15), .lit (.int .i64 4), .lit (.int .i64 8), .lit (.int .i64 6), .lit (.int .i64 2), .lit (.int .i64 10)], .agg [.lit (.int .i64 6), .lit (.int .i64 15), .lit (.int .i64 14), .lit (.int .i64 9), .lit (.int .i64 11), .lit (.int .i64 3), .lit (.int .i64 0), .lit (.int .i64 8), .lit (.int .i64 12), .lit (.int .i64 2), .lit (.int .i64 13), .lit (.int .i64 7), .lit (.int .i64 1), .lit (.int .i64 4), .lit (.int .i64 10), .lit (.int .i64 5)], .agg [.lit (.int .i64 10), .lit (.int .i64 2), .lit (.int .i64 8), .lit (.int .i64 4), .lit (.int .i64 7), .lit (.int .i64 6), .lit (.int .i64 1), .lit (.int .i64 5), .lit (.int .i64 15), .lit (.int .i64 11), .lit (.int .i64 9), .lit (.int .i64 14), .lit (.int .i64 3), .lit (.int .i64 12), .lit (.int .i64 13), .lit (.int .i64 0)]]
def laid_tallyhouse_blake_fours {H : Type} : DataW H := .agg [.agg [.lit (.int .i64 0), .lit (.int .i64 4), .lit (.int .i64 8), .lit (.int .i64 12)], .agg [.lit (.int .i64 1), .lit (.int .i64 5), .lit (.int .i64 9), .lit (.int .i64 13)], .agg [.lit (.int .i64 2), .lit (.int .i64 6), .lit (.int .i64 10), .lit (.int .i64 14)], .agg [.lit (.int .i64 3), .lit (.int .i64 7), .lit (.int .i64 11), .lit (.int .i64 15)], .agg [.lit (.int .i64 0), .lit (.int .i64 5), .lit (.int .i64 10), .lit (.int .i64 15)], .agg [.lit (.int .i64 1), .lit (.int .i64 6), .lit (.int .i64 11), .lit (.int .i64 12)], .agg [.lit (.int .i64 2), .lit (.int .i64 7), .lit (.int .i64 8), .lit (.int .i64 13)], .agg [.lit (.int .i64 3), .lit (.int .i64 4), .lit (.int .i64 9), .lit (.int .i64 14)]]

/-- 'tallyhouselaw18.CollideRange': WHATEVER THE INPUT: true; the input reads as it did. -/
def collideRangeSpec : ChangeSpec := { name := "collideRange", fn := fun _ => fun
  | [d1, d2, d3] => { results := [.lit (.bool true)], args := [d1, d2, d3] }
  | _ => none }
def collideRangeRow : OpenClaim := { program := "ytcdocklbpfdmeaadoor", sum := "b73ad5aa40103f56d00c88e3faf9809e08017f77fd90605b2269a69fb6473de9", func := "tallyhouse/tallyhouselaw18.CollideRange", spec := "collideRange", inPlace := ["internal/bytealg.abigen_runtime_cmpstring"], unfollowed := true, recurses := true, named := ["tallyhouse/blake.start", "tallyhouse/blake.orders", "tallyhouse/blake.fours"], apart := false, laid := [("tallyhouse/blake.start", laid_tallyhouse_blake_start), ("tallyhouse/blake.orders", laid_tallyhouse_blake_orders), ("tallyhouse/blake.fours", laid_tallyhouse_blake_fours)] }
def CollideRangeSaid : Prop := collideRangeRow.holds Tryd.pinned (OpenSpec.ofChange collideRangeSpec)

/-- ITS FALSE NEIGHBOUR: 'it returns false'. Refute it at one input. -/
def collideRangeWrong : ChangeSpec := { name := "collideRange", fn := fun _ => fun
  | [d1, d2, d3] => { results := [.lit (.bool false)], args := [d1, d2, d3] }
  | _ => none }
def CollideRangeWrongFalsely : Prop := collideRangeRow.holds Tryd.pinned (OpenSpec.ofChange collideRangeWrong)

/-- 'tallyhouselaw18.CollideDigests': WHATEVER THE INPUT: true; the input reads as it did. -/
def collideDigestsSpec : ChangeSpec := { name := "collideDigests", fn := fun _ => fun
  | [d1, d2, d3] => { results := [.lit (.bool true)], args := [d1, d2, d3] }
  | _ => none }
def collideDigestsRow : OpenClaim := { program := "ytcdocklbpfdmeaadoor", sum := "b73ad5aa40103f56d00c88e3faf9809e08017f77fd90605b2269a69fb6473de9", func := "tallyhouse/tallyhouselaw18.CollideDigests", spec := "collideDigests", unfollowed := true, recurses := true, named := ["tallyhouse/blake.start", "tallyhouse/blake.orders", "tallyhouse/blake.fours"], apart := false, laid := [("tallyhouse/blake.start", laid_tallyhouse_blake_start), ("tallyhouse/blake.orders", laid_tallyhouse_blake_orders), ("tallyhouse/blake.fours", laid_tallyhouse_blake_fours)] }
def CollideDigestsSaid : Prop := collideDigestsRow.holds Tryd.pinned (OpenSpec.ofChange collideDigestsSpec)

/-- ITS FALSE NEIGHBOUR: 'it returns false'. Refute it at one input. -/
def collideDigestsWrong : ChangeSpec := { name := "collideDigests", fn := fun _ => fun
  | [d1, d2, d3] => { results := [.lit (.bool false)], args := [d1, d2, d3] }
  | _ => none }
def CollideDigestsWrongFalsely : Prop := collideDigestsRow.holds Tryd.pinned (OpenSpec.ofChange collideDigestsWrong)

/-- 'tallyhouselaw18.CollideClaims': WHATEVER THE INPUT: true; the input reads as it did. -/
def collideClaimsSpec : ChangeSpec := { name := "collideClaims", fn := fun _ => fun
  | [d1, d2] => { results := [.lit (.bool true)], args := [d1, d2] }
  | _ => none }
def collideClaimsRow : OpenClaim := { program := "ytcdocklbpfdmeaadoor", sum := "b73ad5aa40103f56d00c88e3faf9809e08017f77fd90605b2269a69fb6473de9", func := "tallyhouse/tallyhouselaw18.CollideClaims", spec := "collideClaims", unfollowed := true, recurses := true, named := ["tallyhouse/blake.start", "tallyhouse/blake.orders", "tallyhouse/blake.fours"], apart := false, laid := [("tallyhouse/blake.start", laid_tallyhouse_blake_start), ("tallyhouse/blake.orders", laid_tallyhouse_blake_orders), ("tallyhouse/blake.fours", laid_tallyhouse_blake_fours)] }
def CollideClaimsSaid : Prop := collideClaimsRow.holds Tryd.pinned (OpenSpec.ofChange collideClaimsSpec)

/-- ITS FALSE NEIGHBOUR: 'it returns false'. Refute it at one input. -/
def collideClaimsWrong : ChangeSpec := { name := "collideClaims", fn := fun _ => fun
  | [d1, d2] => { results := [.lit (.bool false)], args := [d1, d2] }
  | _ => none }
def CollideClaimsWrongFalsely : Prop := collideClaimsRow.holds Tryd.pinned (OpenSpec.ofChange collideClaimsWrong)

/-- 'tallyhouselaw18.CollideGrowths': WHATEVER THE INPUT: true; the input reads as it did. -/
def collideGrowthsSpec : ChangeSpec := { name := "collideGrowths", fn := fun _ => fun
  | [d1, d2] => { results := [.lit (.bool true)], args := [d1, d2] }
  | _ => none }
def collideGrowthsRow : OpenClaim := { program := "ytcdocklbpfdmeaadoor", sum := "b73ad5aa40103f56d00c88e3faf9809e08017f77fd90605b2269a69fb6473de9", func := "tallyhouse/tallyhouselaw18.CollideGrowths", spec := "collideGrowths", unfollowed := true, recurses := true, named := ["tallyhouse/blake.start", "tallyhouse/blake.orders", "tallyhouse/blake.fours"], apart := false, laid := [("tallyhouse/blake.start", laid_tallyhouse_blake_start), ("tallyhouse/blake.orders", laid_tallyhouse_blake_orders), ("tallyhouse/blake.fours", laid_tallyhouse_blake_fours)] }
def CollideGrowthsSaid : Prop := collideGrowthsRow.holds Tryd.pinned (OpenSpec.ofChange collideGrowthsSpec)

/-- ITS FALSE NEIGHBOUR: 'it returns false'. Refute it at one input. -/
def collideGrowthsWrong : ChangeSpec := { name := "collideGrowths", fn := fun _ => fun
  | [d1, d2] => { results := [.lit (.bool false)], args := [d1, d2] }
  | _ => none }
def CollideGrowthsWrongFalsely : Prop := collideGrowthsRow.holds Tryd.pinned (OpenSpec.ofChange collideGrowthsWrong)

/-- 'tallyhouselaw18.CollideRoots': WHATEVER THE INPUT: true; the input reads as it did. -/
def collideRootsSpec : ChangeSpec := { name := "collideRoots", fn := fun _ => fun
  | [d1, d2] => { results := [.lit (.bool true)], args := [d1, d2] }
  | _ => none }
def collideRootsRow : OpenClaim := { program := "ytcdocklbpfdmeaadoor", sum := "b73ad5aa40103f56d00c88e3faf9809e08017f77fd90605b2269a69fb6473de9", func := "tallyhouse/tallyhouselaw18.CollideRoots", spec := "collideRoots", unfollowed := true, recurses := true, named := ["tallyhouse/blake.start", "tallyhouse/blake.orders", "tallyhouse/blake.fours"], apart := false, laid := [("tallyhouse/blake.start", laid_tallyhouse_blake_start), ("tallyhouse/blake.orders", laid_tallyhouse_blake_orders), ("tallyhouse/blake.fours", laid_tallyhouse_blake_fours)] }
def CollideRootsSaid : Prop := collideRootsRow.holds Tryd.pinned (OpenSpec.ofChange collideRootsSpec)

/-- ITS FALSE NEIGHBOUR: 'it returns false'. Refute it at one input. -/
def collideRootsWrong : ChangeSpec := { name := "collideRoots", fn := fun _ => fun
  | [d1, d2] => { results := [.lit (.bool false)], args := [d1, d2] }
  | _ => none }
def CollideRootsWrongFalsely : Prop := collideRootsRow.holds Tryd.pinned (OpenSpec.ofChange collideRootsWrong)

/-- 'tallyhouselaw18.CollideLeaf': WHATEVER THE INPUT: true; the input reads as it did. -/
def collideLeafSpec : ChangeSpec := { name := "collideLeaf", fn := fun _ => fun
  | [d1, d2] => { results := [.lit (.bool true)], args := [d1, d2] }
  | _ => none }
def collideLeafRow : OpenClaim := { program := "ytcdocklbpfdmeaadoor", sum := "b73ad5aa40103f56d00c88e3faf9809e08017f77fd90605b2269a69fb6473de9", func := "tallyhouse/tallyhouselaw18.CollideLeaf", spec := "collideLeaf", unfollowed := true, recurses := true, named := ["tallyhouse/blake.start", "tallyhouse/blake.orders", "tallyhouse/blake.fours"], apart := false, laid := [("tallyhouse/blake.start", laid_tallyhouse_blake_start), ("tallyhouse/blake.orders", laid_tallyhouse_blake_orders), ("tallyhouse/blake.fours", laid_tallyhouse_blake_fours)] }
def CollideLeafSaid : Prop := collideLeafRow.holds Tryd.pinned (OpenSpec.ofChange collideLeafSpec)

/-- ITS FALSE NEIGHBOUR: 'it returns false'. Refute it at one input. -/
def collideLeafWrong : ChangeSpec := { name := "collideLeaf", fn := fun _ => fun
  | [d1, d2] => { results := [.lit (.bool false)], args := [d1, d2] }
  | _ => none }
def CollideLeafWrongFalsely : Prop := collideLeafRow.holds Tryd.pinned (OpenSpec.ofChange collideLeafWrong)

/-- 'tallyhouselaw18.CollideSpans': WHATEVER THE INPUT: true; the input reads as it did. -/
def collideSpansSpec : ChangeSpec := { name := "collideSpans", fn := fun _ => fun
  | [d1, d2, d3] => { results := [.lit (.bool true)], args := [d1, d2, d3] }
  | _ => none }
def collideSpansRow : OpenClaim := { program := "ytcdocklbpfdmeaadoor", sum := "b73ad5aa40103f56d00c88e3faf9809e08017f77fd90605b2269a69fb6473de9", func := "tallyhouse/tallyhouselaw18.CollideSpans", spec := "collideSpans", unfollowed := true, recurses := true, named := ["tallyhouse/blake.start", "tallyhouse/blake.orders", "tallyhouse/blake.fours"], apart := false, laid := [("tallyhouse/blake.start", laid_tallyhouse_blake_start), ("tallyhouse/blake.orders", laid_tallyhouse_blake_orders), ("tallyhouse/blake.fours", laid_tallyhouse_blake_fours)] }
def CollideSpansSaid : Prop := collideSpansRow.holds Tryd.pinned (OpenSpec.ofChange collideSpansSpec)

/-- ITS FALSE NEIGHBOUR: 'it returns false'. Refute it at one input. -/
def collideSpansWrong : ChangeSpec := { name := "collideSpans", fn := fun _ => fun
  | [d1, d2, d3] => { results := [.lit (.bool false)], args := [d1, d2, d3] }
  | _ => none }
def CollideSpansWrongFalsely : Prop := collideSpansRow.holds Tryd.pinned (OpenSpec.ofChange collideSpansWrong)

/-- 'tallyhouselaw18.CollideOld': WHATEVER THE INPUT: true; the input reads as it did. -/
def collideOldSpec : ChangeSpec := { name := "collideOld", fn := fun _ => fun
  | [d1, d2] => { results := [.lit (.bool true)], args := [d1, d2] }
  | _ => none }
def collideOldRow : OpenClaim := { program := "ytcdocklbpfdmeaadoor", sum := "b73ad5aa40103f56d00c88e3faf9809e08017f77fd90605b2269a69fb6473de9", func := "tallyhouse/tallyhouselaw18.CollideOld", spec := "collideOld", unfollowed := true, recurses := true, named := ["tallyhouse/blake.start", "tallyhouse/blake.orders", "tallyhouse/blake.fours"], apart := false, laid := [("tallyhouse/blake.start", laid_tallyhouse_blake_start), ("tallyhouse/blake.orders", laid_tallyhouse_blake_orders), ("tallyhouse/blake.fours", laid_tallyhouse_blake_fours)] }
def CollideOldSaid : Prop := collideOldRow.holds Tryd.pinned (OpenSpec.ofChange collideOldSpec)

/-- ITS FALSE NEIGHBOUR: 'it returns false'. Refute it at one input. -/
def collideOldWrong : ChangeSpec := { name := "collideOld", fn := fun _ => fun
  | [d1, d2] => { results := [.lit (.bool false)], args := [d1, d2] }
  | _ => none }
def CollideOldWrongFalsely : Prop := collideOldRow.holds Tryd.pinned (OpenSpec.ofChange collideOldWrong)

/- THE SECOND FORM. 'bulk': how many values and letters a reading holds, each counted each time it is reached (what is shared counts as often as it is met; a slice's spare places count too). A statement '..UptoSaid' is the law's where the arguments, and the package variables that the reading takes, are together of bulk at most 1048576: NARROWER than '..Said'. Prove '..Said' where nothing that the law and all that it calls make is longer than what came in: it says more and counts as full. Else prove '..UptoSaid'. A law counts once. -/
mutual
def uptoBulk {H : Type} : DataW H → Nat
  | .lit (.string bytes) => bytes.length + 1
  | .lit _ => 1
  | .nil => 1
  | .ptr d => uptoBulk d + 1
  | .slice elems spare => uptoBulkAll elems + uptoBulkAll spare + 1
  | .agg parts => uptoBulkAll parts + 1
  | .iface _ d => uptoBulk d + 1
  | .map entries => uptoBulkEntries entries + 1
  | .held _ => 1
def uptoBulkAll {H : Type} : List (DataW H) → Nat
  | [] => 0
  | d :: r => uptoBulk d + uptoBulkAll r
def uptoBulkEntries {H : Type} : List (Lit × DataW H) → Nat
  | [] => 0
  | x :: r => uptoBulkEntry x + uptoBulkEntries r
def uptoBulkEntry {H : Type} : Lit × DataW H → Nat
  | (.string bytes, d) => bytes.length + uptoBulk d + 1
  | (_, d) => uptoBulk d + 1
 end
def uptoSmall : (H : Type) → List (DataW H) → Bool := fun _ ds => decide (uptoBulkAll ds ≤ 1048576)
def OpenSpec.upto (s : _root_.Go.ChangeSpec) : _root_.Go.OpenSpec := { _root_.Go.OpenSpec.ofChange s with cond := some uptoSmall }

/-- 'tallyhouselaw18.CollideRange', WHERE WHAT IT READS IS OF BULK AT MOST 1048576: true; the input reads as it did. -/
def collideRangeUptoRow : OpenClaim := { program := "ytcdocklbpfdmeaadoor", sum := "b73ad5aa40103f56d00c88e3faf9809e08017f77fd90605b2269a69fb6473de9", func := "tallyhouse/tallyhouselaw18.CollideRange", spec := "collideRange", inPlace := ["internal/bytealg.abigen_runtime_cmpstring"], unfollowed := true, recurses := true, named := ["tallyhouse/blake.start", "tallyhouse/blake.orders", "tallyhouse/blake.fours"], apart := false, laid := [("tallyhouse/blake.start", laid_tallyhouse_blake_start), ("tallyhouse/blake.orders", laid_tallyhouse_blake_orders), ("tallyhouse/blake.fours", laid_tallyhouse_blake_fours)], narrowed := true }
def CollideRangeUptoSaid : Prop := collideRangeUptoRow.holds Tryd.pinned (OpenSpec.upto collideRangeSpec)

/-- 'tallyhouselaw18.CollideDigests', WHERE WHAT IT READS IS OF BULK AT MOST 1048576: true; the input reads as it did. -/
def collideDigestsUptoRow : OpenClaim := { program := "ytcdocklbpfdmeaadoor", sum := "b73ad5aa40103f56d00c88e3faf9809e08017f77fd90605b2269a69fb6473de9", func := "tallyhouse/tallyhouselaw18.CollideDigests", spec := "collideDigests", unfollowed := true, recurses := true, named := ["tallyhouse/blake.start", "tallyhouse/blake.orders", "tallyhouse/blake.fours"], apart := false, laid := [("tallyhouse/blake.start", laid_tallyhouse_blake_start), ("tallyhouse/blake.orders", laid_tallyhouse_blake_orders), ("tallyhouse/blake.fours", laid_tallyhouse_blake_fours)], narrowed := true }
def CollideDigestsUptoSaid : Prop := collideDigestsUptoRow.holds Tryd.pinned (OpenSpec.upto collideDigestsSpec)

/-- 'tallyhouselaw18.CollideClaims', WHERE WHAT IT READS IS OF BULK AT MOST 1048576: true; the input reads as it did. -/
def collideClaimsUptoRow : OpenClaim := { program := "ytcdocklbpfdmeaadoor", sum := "b73ad5aa40103f56d00c88e3faf9809e08017f77fd90605b2269a69fb6473de9", func := "tallyhouse/tallyhouselaw18.CollideClaims", spec := "collideClaims", unfollowed := true, recurses := true, named := ["tallyhouse/blake.start", "tallyhouse/blake.orders", "tallyhouse/blake.fours"], apart := false, laid := [("tallyhouse/blake.start", laid_tallyhouse_blake_start), ("tallyhouse/blake.orders", laid_tallyhouse_blake_orders), ("tallyhouse/blake.fours", laid_tallyhouse_blake_fours)], narrowed := true }
def CollideClaimsUptoSaid : Prop := collideClaimsUptoRow.holds Tryd.pinned (OpenSpec.upto collideClaimsSpec)

/-- 'tallyhouselaw18.CollideGrowths', WHERE WHAT IT READS IS OF BULK AT MOST 1048576: true; the input reads as it did. -/
def collideGrowthsUptoRow : OpenClaim := { program := "ytcdocklbpfdmeaadoor", sum := "b73ad5aa40103f56d00c88e3faf9809e08017f77fd90605b2269a69fb6473de9", func := "tallyhouse/tallyhouselaw18.CollideGrowths", spec := "collideGrowths", unfollowed := true, recurses := true, named := ["tallyhouse/blake.start", "tallyhouse/blake.orders", "tallyhouse/blake.fours"], apart := false, laid := [("tallyhouse/blake.start", laid_tallyhouse_blake_start), ("tallyhouse/blake.orders", laid_tallyhouse_blake_orders), ("tallyhouse/blake.fours", laid_tallyhouse_blake_fours)], narrowed := true }
def CollideGrowthsUptoSaid : Prop := collideGrowthsUptoRow.holds Tryd.pinned (OpenSpec.upto collideGrowthsSpec)

/-- 'tallyhouselaw18.CollideRoots', WHERE WHAT IT READS IS OF BULK AT MOST 1048576: true; the input reads as it did. -/
def collideRootsUptoRow : OpenClaim := { program := "ytcdocklbpfdmeaadoor", sum := "b73ad5aa40103f56d00c88e3faf9809e08017f77fd90605b2269a69fb6473de9", func := "tallyhouse/tallyhouselaw18.CollideRoots", spec := "collideRoots", unfollowed := true, recurses := true, named := ["tallyhouse/blake.start", "tallyhouse/blake.orders", "tallyhouse/blake.fours"], apart := false, laid := [("tallyhouse/blake.start", laid_tallyhouse_blake_start), ("tallyhouse/blake.orders", laid_tallyhouse_blake_orders), ("tallyhouse/blake.fours", laid_tallyhouse_blake_fours)], narrowed := true }
def CollideRootsUptoSaid : Prop := collideRootsUptoRow.holds Tryd.pinned (OpenSpec.upto collideRootsSpec)

/-- 'tallyhouselaw18.CollideLeaf', WHERE WHAT IT READS IS OF BULK AT MOST 1048576: true; the input reads as it did. -/
def collideLeafUptoRow : OpenClaim := { program := "ytcdocklbpfdmeaadoor", sum := "b73ad5aa40103f56d00c88e3faf9809e08017f77fd90605b2269a69fb6473de9", func := "tallyhouse/tallyhouselaw18.CollideLeaf", spec := "collideLeaf", unfollowed := true, recurses := true, named := ["tallyhouse/blake.start", "tallyhouse/blake.orders", "tallyhouse/blake.fours"], apart := false, laid := [("tallyhouse/blake.start", laid_tallyhouse_blake_start), ("tallyhouse/blake.orders", laid_tallyhouse_blake_orders), ("tallyhouse/blake.fours", laid_tallyhouse_blake_fours)], narrowed := true }
def CollideLeafUptoSaid : Prop := collideLeafUptoRow.holds Tryd.pinned (OpenSpec.upto collideLeafSpec)

/-- 'tallyhouselaw18.CollideSpans', WHERE WHAT IT READS IS OF BULK AT MOST 1048576: true; the input reads as it did. -/
def collideSpansUptoRow : OpenClaim := { program := "ytcdocklbpfdmeaadoor", sum := "b73ad5aa40103f56d00c88e3faf9809e08017f77fd90605b2269a69fb6473de9", func := "tallyhouse/tallyhouselaw18.CollideSpans", spec := "collideSpans", unfollowed := true, recurses := true, named := ["tallyhouse/blake.start", "tallyhouse/blake.orders", "tallyhouse/blake.fours"], apart := false, laid := [("tallyhouse/blake.start", laid_tallyhouse_blake_start), ("tallyhouse/blake.orders", laid_tallyhouse_blake_orders), ("tallyhouse/blake.fours", laid_tallyhouse_blake_fours)], narrowed := true }
def CollideSpansUptoSaid : Prop := collideSpansUptoRow.holds Tryd.pinned (OpenSpec.upto collideSpansSpec)

/-- 'tallyhouselaw18.CollideOld', WHERE WHAT IT READS IS OF BULK AT MOST 1048576: true; the input reads as it did. -/
def collideOldUptoRow : OpenClaim := { program := "ytcdocklbpfdmeaadoor", sum := "b73ad5aa40103f56d00c88e3faf9809e08017f77fd90605b2269a69fb6473de9", func := "tallyhouse/tallyhouselaw18.CollideOld", spec := "collideOld", unfollowed := true, recurses := true, named := ["tallyhouse/blake.start", "tallyhouse/blake.orders", "tallyhouse/blake.fours"], apart := false, laid := [("tallyhouse/blake.start", laid_tallyhouse_blake_start), ("tallyhouse/blake.orders", laid_tallyhouse_blake_orders), ("tallyhouse/blake.fours", laid_tallyhouse_blake_fours)], narrowed := true }
def CollideOldUptoSaid : Prop := collideOldUptoRow.holds Tryd.pinned (OpenSpec.upto collideOldSpec)

end Rows
end Go.Proofs.YtcdocklbpfdmeaaDoor
