/-
  NARROWER THAN 'FOR EVERY INPUT', by the rows' own cells (each row's printed sentence says how): WalNothing: laid · WalSides: laid · WalTold: laid · WalHolds: laid.
  DERIVED. THE GIVEN ROWS OF THIS SEAT. 4 by the template 'for every input the law returns true; each argument reads behind the call as it read before'; 0 by the template 'total and deterministic' (their statements: YtabjamkkhlbajaaDoorTotals.lean).
  GIVEN WITH THE SEED: the statements are not yours to turn. If you find one false, say at which input.
  Laid BY PROGRAM, IN A SANDBOX (cutbox-rows.mjs): the forced cells as the released guide's own fill.sh prints them over the translation f37ff1829e66adf8… (all of the seat's roots in one cut). By AI agents, Wed Nov 11 2026. No macro, syntax, notation, axiom, sorry.
-/
import Derived.Test.YtabjamkkhlbajaaDoorChecked
import GoSem.Claim
import GoSem.ClaimJoined
import GoSem.ClaimMapViews
import Derived.JoinedTies
import Derived.KernelRfl
namespace Go.Proofs.YtabjamkkhlbajaaDoor
/- THE CELL 'sum', in the pinned program and in every row, IS THE sha256 OF THE DUMP (.gsa) THAT YtabjamkkhlbajaaDoorProg.lean LOADS. Nothing in Lean hashes anything: it is a label: what it is worth is what the hold of that sum in a sandbox is worth. -/
noncomputable def Tryd.pinned : Pinned := { name := "ytabjamkkhlbajaadoor", sum := "f37ff1829e66adf85e2d05159eacc57870724b750f63094388b9a5fb3be9d0a6", checked := Tryd.checked }
namespace Rows
def none {H : Type} : Left H := { results := [], args := [] }

/- WHAT THE LISTED PACKAGE-LEVEL VARIABLES READ AS WHEN THE CALL BEGINS. Each datum BY PROGRAM (the guide's laid-datum.mjs) off the statement by which the dump's own 'gosem.cut.vars' lays the variable. In a bare row this is a premise. The card (YtabjamkkhlbajaaDoorCards.lean) ties it to the program's text. -/
def laid_tallyhouse_blake_start {H : Type} : DataW H := .agg [.lit (.int .u32 1779033703), .lit (.int .u32 3144134277), .lit (.int .u32 1013904242), .lit (.int .u32 2773480762), .lit (.int .u32 1359893119), .lit (.int .u32 2600822924), .lit (.int .u32 528734635), .lit (.int .u32 1541459225)]
def laid_tallyhouse_blake_orders {H : Type} : DataW H := .agg [.agg [.lit (.int .i64 0), .lit (.int .i64 1), .lit (.int .i64 2), .lit (.int .i64 3), .lit (.int .i64 4), .lit (.int .i64 5), .lit (.int .i64 6), .lit (.int .i64 7), .lit (.int .i64 8), .lit (.int .i64 9), .lit (.int .i64 10), .lit (.int .i64 11), .lit (.int .i64 12), .lit (.int .i64 13), .lit (.int .i64 14), .lit (.int .i64 15)], .agg [.lit (.int .i64 14), .lit (.int .i64 10), .lit (.int .i64 4), .lit (.int .i64 8), .lit (.int .i64 9), .lit (.int .i64 15), .lit (.int .i64 13), .lit (.int .i64 6), .lit (.int .i64 1), .lit (.int .i64 12), .lit (.int .i64 0), .lit (.int .i64 2), .lit (.int .i64 11), .lit (.int .i64 7), .lit (.int .i64 5), .lit (.int .i64 3)], .agg [.lit (.int .i64 11), .lit (.int .i64 8), .lit (.int .i64 12), .lit (.int .i64 0), .lit (.int .i64 5), .lit (.int .i64 2), .lit (.int .i64 15), .lit (.int .i64 13), .lit (.int .i64 10), .lit (.int .i64 14), .lit (.int .i64 3), .lit (.int .i64 6), .lit (.int .i64 7), .lit (.int .i64 1), .lit (.int .i64 9), .lit (.int .i64 4)], .agg [.lit (.int .i64 7), .lit (.int .i64 9), .lit (.int .i64 3), .lit (.int .i64 1), .lit (.int .i64 13), .lit (.int .i64 12), .lit (.int .i64 11), .lit (.int .i64 14), .lit (.int .i64 2), .lit (.int .i64 6), .lit (.int .i64 5), .lit (.int .i64 10), .lit (.int .i64 4), .lit (.int .i64 0), .lit (.int .i64 15), .lit (.int .i64 8)], .agg [.lit (.int .i64 9), .lit (.int .i64 0), .lit (.int .i64 5), .lit (.int .i64 7), .lit (.int .i64 2), .lit (.int .i64 4), .lit (.int .i64 10), .lit (.int .i64 15), .lit (.int .i64 14), .lit (.int .i64 1), .lit (.int .i64 11), .lit (.int .i64 12), .lit (.int .i64 6), .lit (.int .i64 8), .lit (.int .i64 3), .lit (.int .i64 13)], .agg [.lit (.int .i64 2), .lit (.int .i64 12), .lit (.int .i64 6), .lit (.int .i64 10), .lit (.int .i64 0), .lit (.int .i64 11), .lit (.int .i64 8), .lit (.int .i64 3), .lit (.int .i64 4), .lit (.int .i64 13), .lit (.int .i64 7), .lit (.int .i64 5), .lit (.int .i64 15), .lit (.int .i64 14), .lit (.int .i64 1), .lit (.int .i64 9)], .agg [.lit (.int .i64 12), .lit (.int .i64 5), .lit (.int .i64 1), .lit (.int .i64 15), .lit (.int .i64 14), .lit (.int .i64 13), .lit (.int .i64 4), .lit (.int .i64 10), .lit (.int .i64 0), .lit (.int .i64 7), .lit (.int .i64 6), .lit (.int .i64 3), .lit (.int .i64 9), .lit (.int .i64 2), .lit (.int .i64 8), .lit (.int .i64 11)], .agg [.lit (.int .i64 13), .lit (.int .i64 11), .lit (.int .i64 7), .lit (.int .i64 14), .lit (.int .i64 12), .lit (.int .i64 1), .lit (.int .i64 3), .lit (.int .i64 9), .lit (.int .i64 5), .lit (.int .i64 0), .lit (.int .i64 15), .lit (.int .i64 4), .lit (.int .i64 8), .lit (.int .i64 6), .lit (.int .i64 2), .lit (.int .i64 10)], .agg [.lit (.int .i64 6), .lit (.int .i64 15), .lit (.int .i64 14), .lit (.int .i64 9), .lit (.int .i64 11), .lit (.int .i64 3), .lit (.int .i64 0), .lit (.int .i64 8), .lit (.int .i64 12), .lit (.int .i64 2), .lit (.int .i64 13), .lit (.int .i64 7), .lit (.int .i64 1), .lit (.int .i64 4), .lit (.int .i64 10), .lit (.int .i64 5)], .agg [.lit (.int .i64 10), .lit (.int .i64 2), .lit (.int .i64 8), .lit (.int .i64 4), .lit (.int .i64 7), .lit (.int .i64 6), .lit (.int .i64 1), .lit (.int .i64 5), .lit (.int .i64 15), .lit (.int .i64 11), .lit (.int .i64 9), .lit (.int .i64 14), .lit (.int .i64 3), .lit (.int .i64 12), .lit (.int .i64 13), .lit (.int .i64 0)]]
def laid_tallyhouse_blake_fours {H : Type} : DataW H := .agg [.agg [.lit (.int .i64 0), .lit (.int .i64 4), .lit (.int .i64 8), .lit (.int .i64 12)], .agg [.lit (.int .i64 1), .lit (.int .i64 5), .lit (.int .i64 9), .lit (.int .i64 13)], .agg [.lit (.int .i64 2), .lit (.int .i64 6), .lit (.int .i64 10), .lit (.int .i64 14)], .agg [.lit (.int .i64 3), .lit (.int .i64 7), .lit (.int .i64 11), .lit (.int .i64 15)], .agg [.lit (.int .i64 0), .lit (.int .i64 5), .lit (.int .i64 10), .lit (.int .i64 15)], .agg [.lit (.int .i64 1), .lit (.int .i64 6), .lit (.int .i64 11), .lit (.int .i64 12)], .agg [.lit (.int .i64 2), .lit (.int .i64 7), .lit (.int .i64 8), .lit (.int .i64 13)], .agg [.lit (.int .i64 3), .lit (.int .i64 4), .lit (.int .i64 9), .lit (.int .i64 14)]]

/-- 'tallyhouselaw04.WalNothing': WHATEVER THE INPUT: true; the input reads as it did. -/
def walNothingSpec : ChangeSpec := { name := "walNothing", fn := fun _ => fun
  | [d1, d2] => { results := [.lit (.bool true)], args := [d1, d2] }
  | _ => none }
def walNothingRow : OpenClaim := { program := "ytabjamkkhlbajaadoor", sum := "f37ff1829e66adf85e2d05159eacc57870724b750f63094388b9a5fb3be9d0a6", func := "tallyhouse/tallyhouselaw04.WalNothing", spec := "walNothing", inPlace := ["internal/bytealg.MakeNoZero"], unfollowed := true, recurses := true, named := ["tallyhouse/blake.start", "tallyhouse/blake.orders", "tallyhouse/blake.fours"], apart := false, laid := [("tallyhouse/blake.start", laid_tallyhouse_blake_start), ("tallyhouse/blake.orders", laid_tallyhouse_blake_orders), ("tallyhouse/blake.fours", laid_tallyhouse_blake_fours)] }
def WalNothingSaid : Prop := walNothingRow.holds Tryd.pinned (OpenSpec.ofChange walNothingSpec)

/-- ITS FALSE NEIGHBOUR: 'it returns false'. Refute it at one input. -/
def walNothingWrong : ChangeSpec := { name := "walNothing", fn := fun _ => fun
  | [d1, d2] => { results := [.lit (.bool false)], args := [d1, d2] }
  | _ => none }
def WalNothingWrongFalsely : Prop := walNothingRow.holds Tryd.pinned (OpenSpec.ofChange walNothingWrong)

/-- 'tallyhouselaw04.WalSides': WHATEVER THE INPUT: true; the input reads as it did. -/
def walSidesSpec : ChangeSpec := { name := "walSides", fn := fun _ => fun
  | [d1, d2] => { results := [.lit (.bool true)], args := [d1, d2] }
  | _ => none }
def walSidesRow : OpenClaim := { program := "ytabjamkkhlbajaadoor", sum := "f37ff1829e66adf85e2d05159eacc57870724b750f63094388b9a5fb3be9d0a6", func := "tallyhouse/tallyhouselaw04.WalSides", spec := "walSides", inPlace := ["internal/bytealg.MakeNoZero"], unfollowed := true, recurses := true, named := ["tallyhouse/blake.start", "tallyhouse/blake.orders", "tallyhouse/blake.fours"], apart := false, laid := [("tallyhouse/blake.start", laid_tallyhouse_blake_start), ("tallyhouse/blake.orders", laid_tallyhouse_blake_orders), ("tallyhouse/blake.fours", laid_tallyhouse_blake_fours)] }
def WalSidesSaid : Prop := walSidesRow.holds Tryd.pinned (OpenSpec.ofChange walSidesSpec)

/-- ITS FALSE NEIGHBOUR: 'it returns false'. Refute it at one input. -/
def walSidesWrong : ChangeSpec := { name := "walSides", fn := fun _ => fun
  | [d1, d2] => { results := [.lit (.bool false)], args := [d1, d2] }
  | _ => none }
def WalSidesWrongFalsely : Prop := walSidesRow.holds Tryd.pinned (OpenSpec.ofChange walSidesWrong)

/-- 'tallyhouselaw04.WalTold': WHATEVER THE INPUT: true; the input reads as it did. -/
def walToldSpec : ChangeSpec := { name := "walTold", fn := fun _ => fun
  | [d1, d2, d3] => { results := [.lit (.bool true)], args := [d1, d2, d3] }
  | _ => none }
def walToldRow : OpenClaim := { program := "ytabjamkkhlbajaadoor", sum := "f37ff1829e66adf85e2d05159eacc57870724b750f63094388b9a5fb3be9d0a6", func := "tallyhouse/tallyhouselaw04.WalTold", spec := "walTold", inPlace := ["internal/bytealg.MakeNoZero"], unfollowed := true, recurses := true, named := ["tallyhouse/blake.start", "tallyhouse/blake.orders", "tallyhouse/blake.fours"], apart := false, laid := [("tallyhouse/blake.start", laid_tallyhouse_blake_start), ("tallyhouse/blake.orders", laid_tallyhouse_blake_orders), ("tallyhouse/blake.fours", laid_tallyhouse_blake_fours)] }
def WalToldSaid : Prop := walToldRow.holds Tryd.pinned (OpenSpec.ofChange walToldSpec)

/-- ITS FALSE NEIGHBOUR: 'it returns false'. Refute it at one input. -/
def walToldWrong : ChangeSpec := { name := "walTold", fn := fun _ => fun
  | [d1, d2, d3] => { results := [.lit (.bool false)], args := [d1, d2, d3] }
  | _ => none }
def WalToldWrongFalsely : Prop := walToldRow.holds Tryd.pinned (OpenSpec.ofChange walToldWrong)

/-- 'tallyhouselaw04.WalHolds': WHATEVER THE INPUT: true; the input reads as it did. -/
def walHoldsSpec : ChangeSpec := { name := "walHolds", fn := fun _ => fun
  | [d] => { results := [.lit (.bool true)], args := [d] }
  | _ => none }
def walHoldsRow : OpenClaim := { program := "ytabjamkkhlbajaadoor", sum := "f37ff1829e66adf85e2d05159eacc57870724b750f63094388b9a5fb3be9d0a6", func := "tallyhouse/tallyhouselaw04.WalHolds", spec := "walHolds", inPlace := ["internal/bytealg.MakeNoZero"], unfollowed := true, recurses := true, named := ["tallyhouse/blake.start", "tallyhouse/blake.orders", "tallyhouse/blake.fours"], apart := false, laid := [("tallyhouse/blake.start", laid_tallyhouse_blake_start), ("tallyhouse/blake.orders", laid_tallyhouse_blake_orders), ("tallyhouse/blake.fours", laid_tallyhouse_blake_fours)] }
def WalHoldsSaid : Prop := walHoldsRow.holds Tryd.pinned (OpenSpec.ofChange walHoldsSpec)

/-- ITS FALSE NEIGHBOUR: 'it returns false'. Refute it at one input. -/
def walHoldsWrong : ChangeSpec := { name := "walHolds", fn := fun _ => fun
  | [d] => { results := [.lit (.bool false)], args := [d] }
  | _ => none }
def WalHoldsWrongFalsely : Prop := walHoldsRow.holds Tryd.pinned (OpenSpec.ofChange walHoldsWrong)

/- THE SECOND FORM. 'bulk': how many values and letters a reading holds, each counted each time it is reached (what is shared counts as often as it is met; a slice's spare places count too). A statement '..UptoSaid' is the law's where the arguments, and the package variables that the reading takes, are together of bulk at most 1048576: NARROWER than '..Said'. Prove '..Said' where nothing that the law and all that it calls make is longer than what came in: it says more and counts as full. Else prove '..UptoSaid'. A law counts once. -/
mutual
def uptoBulk {H : Type} : DataW H → Nat
  | .lit (.string bytes) => bytes.length + 1
  | .lit _ => 1
  | .nil => 1
  | .ptr d => uptoBulk d + 1
  | .slice elems spare => uptoBulkAll elems + uptoBulkAll spare + 1
  | .agg parts => uptoBulkAll parts + 1
  | .iface _ d => uptoBulk d + 1
  | .map entries => uptoBulkEntries entries + 1
  | .held _ => 1
def uptoBulkAll {H : Type} : List (DataW H) → Nat
  | [] => 0
  | d :: r => uptoBulk d + uptoBulkAll r
def uptoBulkEntries {H : Type} : List (Lit × DataW H) → Nat
  | [] => 0
  | x :: r => uptoBulkEntry x + uptoBulkEntries r
def uptoBulkEntry {H : Type} : Lit × DataW H → Nat
  | (.string bytes, d) => bytes.length + uptoBulk d + 1
  | (_, d) => uptoBulk d + 1
 end
def uptoSmall : (H : Type) → List (DataW H) → Bool := fun _ ds => decide (uptoBulkAll ds ≤ 1048576)
def OpenSpec.upto (s : _root_.Go.ChangeSpec) : _root_.Go.OpenSpec := { _root_.Go.OpenSpec.ofChange s with cond := some uptoSmall }

/-- 'tallyhouselaw04.WalNothing', WHERE WHAT IT READS IS OF BULK AT MOST 1048576: true; the input reads as it did. -/
def walNothingUptoRow : OpenClaim := { program := "ytabjamkkhlbajaadoor", sum := "f37ff1829e66adf85e2d05159eacc57870724b750f63094388b9a5fb3be9d0a6", func := "tallyhouse/tallyhouselaw04.WalNothing", spec := "walNothing", inPlace := ["internal/bytealg.MakeNoZero"], unfollowed := true, recurses := true, named := ["tallyhouse/blake.start", "tallyhouse/blake.orders", "tallyhouse/blake.fours"], apart := false, laid := [("tallyhouse/blake.start", laid_tallyhouse_blake_start), ("tallyhouse/blake.orders", laid_tallyhouse_blake_orders), ("tallyhouse/blake.fours", laid_tallyhouse_blake_fours)], narrowed := true }
def WalNothingUptoSaid : Prop := walNothingUptoRow.holds Tryd.pinned (OpenSpec.upto walNothingSpec)

/-- 'tallyhouselaw04.WalSides', WHERE WHAT IT READS IS OF BULK AT MOST 1048576: true; the input reads as it did. -/
def walSidesUptoRow : OpenClaim := { program := "ytabjamkkhlbajaadoor", sum := "f37ff1829e66adf85e2d05159eacc57870724b750f63094388b9a5fb3be9d0a6", func := "tallyhouse/tallyhouselaw04.WalSides", spec := "walSides", inPlace := ["internal/bytealg.MakeNoZero"], unfollowed := true, recurses := true, named := ["tallyhouse/blake.start", "tallyhouse/blake.orders", "tallyhouse/blake.fours"], apart := false, laid := [("tallyhouse/blake.start", laid_tallyhouse_blake_start), ("tallyhouse/blake.orders", laid_tallyhouse_blake_orders), ("tallyhouse/blake.fours", laid_tallyhouse_blake_fours)], narrowed := true }
def WalSidesUptoSaid : Prop := walSidesUptoRow.holds Tryd.pinned (OpenSpec.upto walSidesSpec)

/-- 'tallyhouselaw04.WalTold', WHERE WHAT IT READS IS OF BULK AT MOST 1048576: true; the input reads as it did. -/
def walToldUptoRow : OpenClaim := { program := "ytabjamkkhlbajaadoor", sum := "f37ff1829e66adf85e2d05159eacc57870724b750f63094388b9a5fb3be9d0a6", func := "tallyhouse/tallyhouselaw04.WalTold", spec := "walTold", inPlace := ["internal/bytealg.MakeNoZero"], unfollowed := true, recurses := true, named := ["tallyhouse/blake.start", "tallyhouse/blake.orders", "tallyhouse/blake.fours"], apart := false, laid := [("tallyhouse/blake.start", laid_tallyhouse_blake_start), ("tallyhouse/blake.orders", laid_tallyhouse_blake_orders), ("tallyhouse/blake.fours", laid_tallyhouse_blake_fours)], narrowed := true }
def WalToldUptoSaid : Prop := walToldUptoRow.holds Tryd.pinned (OpenSpec.upto walToldSpec)

/-- 'tallyhouselaw04.WalHolds', WHERE WHAT IT READS IS OF BULK AT MOST 1048576: true; the input reads as it did. -/
def walHoldsUptoRow : OpenClaim := { program := "ytabjamkkhlbajaadoor", sum := "f37ff1829e66adf85e2d05159eacc57870724b750f63094388b9a5fb3be9d0a6", func := "tallyhouse/tallyhouselaw04.WalHolds", spec := "walHolds", inPlace := ["internal/bytealg.MakeNoZero"], unfollowed := true, recurses := true, named := ["tallyhouse/blake.start", "tallyhouse/blake.orders", "tallyhouse/blake.fours"], apart := false, laid := [("tallyhouse/blake.start", laid_tallyhouse_blake_start), ("tallyhouse/blake.orders", laid_tallyhouse_blake_orders), ("tallyhouse/blake.fours", laid_tallyhouse_blake_fours)], narrowed := true }
def WalHoldsUptoSaid : Prop := walHoldsUptoRow.holds Tryd.pinned (OpenSpec.upto walHoldsSpec)

end Rows
end Go.Proofs.YtabjamkkhlbajaaDoor
