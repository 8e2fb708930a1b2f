/-
  NARROWER THAN 'FOR EVERY INPUT', by the rows' own cells (each row's printed sentence says how): HistoryRoots: laid · HistoryDigests: laid · HistoryClimbs: laid · HistoryHalves: laid · HistoryProves: laid · SearchRoots: laid · SearchProves: laid · SearchVerifies: laid · SearchDigests: laid · SearchBack: laid · HistoryGrowths: laid · HistoryGrows: laid.
  DERIVED. THE GIVEN ROWS OF THIS SEAT. 12 by the template 'for every input the law returns true; each argument reads behind the call as it read before'; 0 by the template 'total and deterministic' (their statements: YtbobamifpjlmiaaDoorTotals.lean).
  GIVEN WITH THE SEED: the statements are not yours to turn. If you find one false, say at which input.
  Laid BY PROGRAM, IN A SANDBOX (cutbox-rows.mjs): the forced cells as the released guide's own fill.sh prints them over the translation a2c0249b367405ec… (all of the seat's roots in one cut). By AI agents, Wed Nov 11 2026. No macro, syntax, notation, axiom, sorry.
-/
import Derived.Test.YtbobamifpjlmiaaDoorChecked
import GoSem.Claim
import GoSem.ClaimJoined
import GoSem.ClaimMapViews
import Derived.JoinedTies
import Derived.KernelRfl
namespace Go.Proofs.YtbobamifpjlmiaaDoor
/- THE CELL 'sum', in the pinned program and in every row, IS THE sha256 OF THE DUMP (.gsa) THAT YtbobamifpjlmiaaDoorProg.lean LOADS. Nothing in Lean hashes anything: it is a label: what it is worth is what the hold of that sum in a sandbox is worth. -/
noncomputable def Tryd.pinned : Pinned := { name := "ytbobamifpjlmiaadoor", sum := "a2c0249b367405ecb242e0a7dd11281501e27c36ff4abc528c97743b735d8c1e", checked := Tryd.checked }
namespace Rows
def none {H : Type} : Left H := { results := [], args := [] }

/- WHAT THE LISTED PACKAGE-LEVEL VARIABLES READ AS WHEN THE CALL BEGINS. Each datum BY PROGRAM (the guide's laid-datum.mjs) off the statement by which the dump's own 'gosem.cut.vars' lays the variable. In a bare row this is a premise. The card (YtbobamifpjlmiaaDoorCards.lean) ties it to the program's text. -/
def laid_tallyhouse_blake_start {H : Type} : DataW H := .agg [.lit (.int .u32 1779033703), .lit (.int .u32 3144134277), .lit (.int .u32 1013904242), .lit (.int .u32 2773480762), .lit (.int .u32 1359893119), .lit (.int .u32 2600822924), .lit (.int .u32 528734635), .lit (.int .u32 1541459225)]
def laid_tallyhouse_blake_orders {H : Type} : DataW H := .agg [.agg [.lit (.int .i64 0), .lit (.int .i64 1), .lit (.int .i64 2), .lit (.int .i64 3), .lit (.int .i64 4), .lit (.int .i64 5), .lit (.int .i64 6), .lit (.int .i64 7), .lit (.int .i64 8), .lit (.int .i64 9), .lit (.int .i64 10), .lit (.int .i64 11), .lit (.int .i64 12), .lit (.int .i64 13), .lit (.int .i64 14), .lit (.int .i64 15)], .agg [.lit (.int .i64 14), .lit (.int .i64 10), .lit (.int .i64 4), .lit (.int .i64 8), .lit (.int .i64 9), .lit (.int .i64 15), .lit (.int .i64 13), .lit (.int .i64 6), .lit (.int .i64 1), .lit (.int .i64 12), .lit (.int .i64 0), .lit (.int .i64 2), .lit (.int .i64 11), .lit (.int .i64 7), .lit (.int .i64 5), .lit (.int .i64 3)], .agg [.lit (.int .i64 11), .lit (.int .i64 8), .lit (.int .i64 12), .lit (.int .i64 0), .lit (.int .i64 5), .lit (.int .i64 2), .lit (.int .i64 15), .lit (.int .i64 13), .lit (.int .i64 10), .lit (.int .i64 14), .lit (.int .i64 3), .lit (.int .i64 6), .lit (.int .i64 7), .lit (.int .i64 1), .lit (.int .i64 9), .lit (.int .i64 4)], .agg [.lit (.int .i64 7), .lit (.int .i64 9), .lit (.int .i64 3), .lit (.int .i64 1), .lit (.int .i64 13), .lit (.int .i64 12), .lit (.int .i64 11), .lit (.int .i64 14), .lit (.int .i64 2), .lit (.int .i64 6), .lit (.int .i64 5), .lit (.int .i64 10), .lit (.int .i64 4), .lit (.int .i64 0), .lit (.int .i64 15), .lit (.int .i64 8)], .agg [.lit (.int .i64 9), .lit (.int .i64 0), .lit (.int .i64 5), .lit (.int .i64 7), .lit (.int .i64 2), .lit (.int .i64 4), .lit (.int .i64 10), .lit (.int .i64 15), .lit (.int .i64 14), .lit (.int .i64 1), .lit (.int .i64 11), .lit (.int .i64 12), .lit (.int .i64 6), .lit (.int .i64 8), .lit (.int .i64 3), .lit (.int .i64 13)], .agg [.lit (.int .i64 2), .lit (.int .i64 12), .lit (.int .i64 6), .lit (.int .i64 10), .lit (.int .i64 0), .lit (.int .i64 11), .lit (.int .i64 8), .lit (.int .i64 3), .lit (.int .i64 4), .lit (.int .i64 13), .lit (.int .i64 7), .lit (.int .i64 5), .lit (.int .i64 15), .lit (.int .i64 14), .lit (.int .i64 1), .lit (.int .i64 9)], .agg [.lit (.int .i64 12), .lit (.int .i64 5), .lit (.int .i64 1), .lit (.int .i64 15), .lit (.int .i64 14), .lit (.int .i64 13), .lit (.int .i64 4), .lit (.int .i64 10), .lit (.int .i64 0), .lit (.int .i64 7), .lit (.int .i64 6), .lit (.int .i64 3), .lit (.int .i64 9), .lit (.int .i64 2), .lit (.int .i64 8), .lit (.int .i64 11)], .agg [.lit (.int .i64 13), .lit (.int .i64 11), .lit (.int .i64 7), .lit (.int .i64 14), .lit (.int .i64 12), .lit (.int .i64 1), .lit (.int .i64 3), .lit (.int .i64 9), .lit (.int .i64 5), .lit (.int .i64 0), .lit (.int .i64 15), .lit (.int .i64 4), .lit (.int .i64 8), .lit (.int .i64 6), .lit (.int .i64 2), .lit (.int .i64 10)], .agg [.lit (.int .i64 6), .lit (.int .i64 15), .lit (.int .i64 14), .lit (.int .i64 9), .lit (.int .i64 11), .lit (.int .i64 3), .lit (.int .i64 0), .lit (.int .i64 8), .lit (.int .i64 12), .lit (.int .i64 2), .lit (.int .i64 13), .lit (.int .i64 7), .lit (.int .i64 1), .lit (.int .i64 4), .lit (.int .i64 10), .lit (.int .i64 5)], .agg [.lit (.int .i64 10), .lit (.int .i64 2), .lit (.int .i64 8), .lit (.int .i64 4), .lit (.int .i64 7), .lit (.int .i64 6), .lit (.int .i64 1), .lit (.int .i64 5), .lit (.int .i64 15), .lit (.int .i64 11), .lit (.int .i64 9), .lit (.int .i64 14), .lit (.int .i64 3), .lit (.int .i64 12), .lit (.int .i64 13), .lit (.int .i64 0)]]
def laid_tallyhouse_blake_fours {H : Type} : DataW H := .agg [.agg [.lit (.int .i64 0), .lit (.int .i64 4), .lit (.int .i64 8), .lit (.int .i64 12)], .agg [.lit (.int .i64 1), .lit (.int .i64 5), .lit (.int .i64 9), .lit (.int .i64 13)], .agg [.lit (.int .i64 2), .lit (.int .i64 6), .lit (.int .i64 10), .lit (.int .i64 14)], .agg [.lit (.int .i64 3), .lit (.int .i64 7), .lit (.int .i64 11), .lit (.int .i64 15)], .agg [.lit (.int .i64 0), .lit (.int .i64 5), .lit (.int .i64 10), .lit (.int .i64 15)], .agg [.lit (.int .i64 1), .lit (.int .i64 6), .lit (.int .i64 11), .lit (.int .i64 12)], .agg [.lit (.int .i64 2), .lit (.int .i64 7), .lit (.int .i64 8), .lit (.int .i64 13)], .agg [.lit (.int .i64 3), .lit (.int .i64 4), .lit (.int .i64 9), .lit (.int .i64 14)]]

/-- 'tallyhouselaw16.HistoryRoots': WHATEVER THE INPUT: true; the input reads as it did. -/
def historyRootsSpec : ChangeSpec := { name := "historyRoots", fn := fun _ => fun
  | [d1, d2, d3] => { results := [.lit (.bool true)], args := [d1, d2, d3] }
  | _ => none }
def historyRootsRow : OpenClaim := { program := "ytbobamifpjlmiaadoor", sum := "a2c0249b367405ecb242e0a7dd11281501e27c36ff4abc528c97743b735d8c1e", func := "tallyhouse/tallyhouselaw16.HistoryRoots", spec := "historyRoots", unfollowed := true, recurses := true, named := ["tallyhouse/blake.start", "tallyhouse/blake.orders", "tallyhouse/blake.fours"], apart := false, laid := [("tallyhouse/blake.start", laid_tallyhouse_blake_start), ("tallyhouse/blake.orders", laid_tallyhouse_blake_orders), ("tallyhouse/blake.fours", laid_tallyhouse_blake_fours)] }
def HistoryRootsSaid : Prop := historyRootsRow.holds Tryd.pinned (OpenSpec.ofChange historyRootsSpec)

/-- ITS FALSE NEIGHBOUR: 'it returns false'. Refute it at one input. -/
def historyRootsWrong : ChangeSpec := { name := "historyRoots", fn := fun _ => fun
  | [d1, d2, d3] => { results := [.lit (.bool false)], args := [d1, d2, d3] }
  | _ => none }
def HistoryRootsWrongFalsely : Prop := historyRootsRow.holds Tryd.pinned (OpenSpec.ofChange historyRootsWrong)

/-- 'tallyhouselaw16.HistoryDigests': WHATEVER THE INPUT: true; the input reads as it did. -/
def historyDigestsSpec : ChangeSpec := { name := "historyDigests", fn := fun _ => fun
  | [d1, d2, d3] => { results := [.lit (.bool true)], args := [d1, d2, d3] }
  | _ => none }
def historyDigestsRow : OpenClaim := { program := "ytbobamifpjlmiaadoor", sum := "a2c0249b367405ecb242e0a7dd11281501e27c36ff4abc528c97743b735d8c1e", func := "tallyhouse/tallyhouselaw16.HistoryDigests", spec := "historyDigests", unfollowed := true, recurses := true, named := ["tallyhouse/blake.start", "tallyhouse/blake.orders", "tallyhouse/blake.fours"], apart := false, laid := [("tallyhouse/blake.start", laid_tallyhouse_blake_start), ("tallyhouse/blake.orders", laid_tallyhouse_blake_orders), ("tallyhouse/blake.fours", laid_tallyhouse_blake_fours)] }
def HistoryDigestsSaid : Prop := historyDigestsRow.holds Tryd.pinned (OpenSpec.ofChange historyDigestsSpec)

/-- ITS FALSE NEIGHBOUR: 'it returns false'. Refute it at one input. -/
def historyDigestsWrong : ChangeSpec := { name := "historyDigests", fn := fun _ => fun
  | [d1, d2, d3] => { results := [.lit (.bool false)], args := [d1, d2, d3] }
  | _ => none }
def HistoryDigestsWrongFalsely : Prop := historyDigestsRow.holds Tryd.pinned (OpenSpec.ofChange historyDigestsWrong)

/-- 'tallyhouselaw16.HistoryClimbs': WHATEVER THE INPUT: true; the input reads as it did. -/
def historyClimbsSpec : ChangeSpec := { name := "historyClimbs", fn := fun _ => fun
  | [d1, d2] => { results := [.lit (.bool true)], args := [d1, d2] }
  | _ => none }
def historyClimbsRow : OpenClaim := { program := "ytbobamifpjlmiaadoor", sum := "a2c0249b367405ecb242e0a7dd11281501e27c36ff4abc528c97743b735d8c1e", func := "tallyhouse/tallyhouselaw16.HistoryClimbs", spec := "historyClimbs", unfollowed := true, recurses := true, named := ["tallyhouse/blake.start", "tallyhouse/blake.orders", "tallyhouse/blake.fours"], apart := false, laid := [("tallyhouse/blake.start", laid_tallyhouse_blake_start), ("tallyhouse/blake.orders", laid_tallyhouse_blake_orders), ("tallyhouse/blake.fours", laid_tallyhouse_blake_fours)] }
def HistoryClimbsSaid : Prop := historyClimbsRow.holds Tryd.pinned (OpenSpec.ofChange historyClimbsSpec)

/-- ITS FALSE NEIGHBOUR: 'it returns false'. Refute it at one input. -/
def historyClimbsWrong : ChangeSpec := { name := "historyClimbs", fn := fun _ => fun
  | [d1, d2] => { results := [.lit (.bool false)], args := [d1, d2] }
  | _ => none }
def HistoryClimbsWrongFalsely : Prop := historyClimbsRow.holds Tryd.pinned (OpenSpec.ofChange historyClimbsWrong)

/-- 'tallyhouselaw16.HistoryHalves': WHATEVER THE INPUT: true; the input reads as it did. -/
def historyHalvesSpec : ChangeSpec := { name := "historyHalves", fn := fun _ => fun
  | [d] => { results := [.lit (.bool true)], args := [d] }
  | _ => none }
def historyHalvesRow : OpenClaim := { program := "ytbobamifpjlmiaadoor", sum := "a2c0249b367405ecb242e0a7dd11281501e27c36ff4abc528c97743b735d8c1e", func := "tallyhouse/tallyhouselaw16.HistoryHalves", spec := "historyHalves", unfollowed := true, recurses := true, named := ["tallyhouse/blake.start", "tallyhouse/blake.orders", "tallyhouse/blake.fours"], apart := false, laid := [("tallyhouse/blake.start", laid_tallyhouse_blake_start), ("tallyhouse/blake.orders", laid_tallyhouse_blake_orders), ("tallyhouse/blake.fours", laid_tallyhouse_blake_fours)] }
def HistoryHalvesSaid : Prop := historyHalvesRow.holds Tryd.pinned (OpenSpec.ofChange historyHalvesSpec)

/-- ITS FALSE NEIGHBOUR: 'it returns false'. Refute it at one input. -/
def historyHalvesWrong : ChangeSpec := { name := "historyHalves", fn := fun _ => fun
  | [d] => { results := [.lit (.bool false)], args := [d] }
  | _ => none }
def HistoryHalvesWrongFalsely : Prop := historyHalvesRow.holds Tryd.pinned (OpenSpec.ofChange historyHalvesWrong)

/-- 'tallyhouselaw16.HistoryProves': WHATEVER THE INPUT: true; the input reads as it did. -/
def historyProvesSpec : ChangeSpec := { name := "historyProves", fn := fun _ => fun
  | [d1, d2] => { results := [.lit (.bool true)], args := [d1, d2] }
  | _ => none }
def historyProvesRow : OpenClaim := { program := "ytbobamifpjlmiaadoor", sum := "a2c0249b367405ecb242e0a7dd11281501e27c36ff4abc528c97743b735d8c1e", func := "tallyhouse/tallyhouselaw16.HistoryProves", spec := "historyProves", unfollowed := true, recurses := true, named := ["tallyhouse/blake.start", "tallyhouse/blake.orders", "tallyhouse/blake.fours"], apart := false, laid := [("tallyhouse/blake.start", laid_tallyhouse_blake_start), ("tallyhouse/blake.orders", laid_tallyhouse_blake_orders), ("tallyhouse/blake.fours", laid_tallyhouse_blake_fours)] }
def HistoryProvesSaid : Prop := historyProvesRow.holds Tryd.pinned (OpenSpec.ofChange historyProvesSpec)

/-- ITS FALSE NEIGHBOUR: 'it returns false'. Refute it at one input. -/
def historyProvesWrong : ChangeSpec := { name := "historyProves", fn := fun _ => fun
  | [d1, d2] => { results := [.lit (.bool false)], args := [d1, d2] }
  | _ => none }
def HistoryProvesWrongFalsely : Prop := historyProvesRow.holds Tryd.pinned (OpenSpec.ofChange historyProvesWrong)

/-- 'tallyhouselaw15.SearchRoots': WHATEVER THE INPUT: true; the input reads as it did. -/
def searchRootsSpec : ChangeSpec := { name := "searchRoots", fn := fun _ => fun
  | [d1, d2, d3] => { results := [.lit (.bool true)], args := [d1, d2, d3] }
  | _ => none }
def searchRootsRow : OpenClaim := { program := "ytbobamifpjlmiaadoor", sum := "a2c0249b367405ecb242e0a7dd11281501e27c36ff4abc528c97743b735d8c1e", func := "tallyhouse/tallyhouselaw15.SearchRoots", spec := "searchRoots", inPlace := ["internal/bytealg.abigen_runtime_cmpstring"], unfollowed := true, recurses := true, named := ["tallyhouse/blake.start", "tallyhouse/blake.orders", "tallyhouse/blake.fours"], apart := false, laid := [("tallyhouse/blake.start", laid_tallyhouse_blake_start), ("tallyhouse/blake.orders", laid_tallyhouse_blake_orders), ("tallyhouse/blake.fours", laid_tallyhouse_blake_fours)] }
def SearchRootsSaid : Prop := searchRootsRow.holds Tryd.pinned (OpenSpec.ofChange searchRootsSpec)

/-- ITS FALSE NEIGHBOUR: 'it returns false'. Refute it at one input. -/
def searchRootsWrong : ChangeSpec := { name := "searchRoots", fn := fun _ => fun
  | [d1, d2, d3] => { results := [.lit (.bool false)], args := [d1, d2, d3] }
  | _ => none }
def SearchRootsWrongFalsely : Prop := searchRootsRow.holds Tryd.pinned (OpenSpec.ofChange searchRootsWrong)

/-- 'tallyhouselaw15.SearchProves': WHATEVER THE INPUT: true; the input reads as it did. -/
def searchProvesSpec : ChangeSpec := { name := "searchProves", fn := fun _ => fun
  | [d1, d2] => { results := [.lit (.bool true)], args := [d1, d2] }
  | _ => none }
def searchProvesRow : OpenClaim := { program := "ytbobamifpjlmiaadoor", sum := "a2c0249b367405ecb242e0a7dd11281501e27c36ff4abc528c97743b735d8c1e", func := "tallyhouse/tallyhouselaw15.SearchProves", spec := "searchProves", inPlace := ["internal/bytealg.abigen_runtime_cmpstring"], unfollowed := true, recurses := true, named := ["tallyhouse/blake.start", "tallyhouse/blake.orders", "tallyhouse/blake.fours"], apart := false, laid := [("tallyhouse/blake.start", laid_tallyhouse_blake_start), ("tallyhouse/blake.orders", laid_tallyhouse_blake_orders), ("tallyhouse/blake.fours", laid_tallyhouse_blake_fours)] }
def SearchProvesSaid : Prop := searchProvesRow.holds Tryd.pinned (OpenSpec.ofChange searchProvesSpec)

/-- ITS FALSE NEIGHBOUR: 'it returns false'. Refute it at one input. -/
def searchProvesWrong : ChangeSpec := { name := "searchProves", fn := fun _ => fun
  | [d1, d2] => { results := [.lit (.bool false)], args := [d1, d2] }
  | _ => none }
def SearchProvesWrongFalsely : Prop := searchProvesRow.holds Tryd.pinned (OpenSpec.ofChange searchProvesWrong)

/-- 'tallyhouselaw15.SearchVerifies': WHATEVER THE INPUT: true; the input reads as it did. -/
def searchVerifiesSpec : ChangeSpec := { name := "searchVerifies", fn := fun _ => fun
  | [d1, d2, d3] => { results := [.lit (.bool true)], args := [d1, d2, d3] }
  | _ => none }
def searchVerifiesRow : OpenClaim := { program := "ytbobamifpjlmiaadoor", sum := "a2c0249b367405ecb242e0a7dd11281501e27c36ff4abc528c97743b735d8c1e", func := "tallyhouse/tallyhouselaw15.SearchVerifies", spec := "searchVerifies", inPlace := ["internal/bytealg.abigen_runtime_cmpstring"], unfollowed := true, recurses := true, named := ["tallyhouse/blake.start", "tallyhouse/blake.orders", "tallyhouse/blake.fours"], apart := false, laid := [("tallyhouse/blake.start", laid_tallyhouse_blake_start), ("tallyhouse/blake.orders", laid_tallyhouse_blake_orders), ("tallyhouse/blake.fours", laid_tallyhouse_blake_fours)] }
def SearchVerifiesSaid : Prop := searchVerifiesRow.holds Tryd.pinned (OpenSpec.ofChange searchVerifiesSpec)

/-- ITS FALSE NEIGHBOUR: 'it returns false'. Refute it at one input. -/
def searchVerifiesWrong : ChangeSpec := { name := "searchVerifies", fn := fun _ => fun
  | [d1, d2, d3] => { results := [.lit (.bool false)], args := [d1, d2, d3] }
  | _ => none }
def SearchVerifiesWrongFalsely : Prop := searchVerifiesRow.holds Tryd.pinned (OpenSpec.ofChange searchVerifiesWrong)

/-- 'tallyhouselaw15.SearchDigests': WHATEVER THE INPUT: true; the input reads as it did. -/
def searchDigestsSpec : ChangeSpec := { name := "searchDigests", fn := fun _ => fun
  | [d1, d2, d3] => { results := [.lit (.bool true)], args := [d1, d2, d3] }
  | _ => none }
def searchDigestsRow : OpenClaim := { program := "ytbobamifpjlmiaadoor", sum := "a2c0249b367405ecb242e0a7dd11281501e27c36ff4abc528c97743b735d8c1e", func := "tallyhouse/tallyhouselaw15.SearchDigests", spec := "searchDigests", inPlace := ["internal/bytealg.abigen_runtime_cmpstring"], unfollowed := true, recurses := true, named := ["tallyhouse/blake.start", "tallyhouse/blake.orders", "tallyhouse/blake.fours"], apart := false, laid := [("tallyhouse/blake.start", laid_tallyhouse_blake_start), ("tallyhouse/blake.orders", laid_tallyhouse_blake_orders), ("tallyhouse/blake.fours", laid_tallyhouse_blake_fours)] }
def SearchDigestsSaid : Prop := searchDigestsRow.holds Tryd.pinned (OpenSpec.ofChange searchDigestsSpec)

/-- ITS FALSE NEIGHBOUR: 'it returns false'. Refute it at one input. -/
def searchDigestsWrong : ChangeSpec := { name := "searchDigests", fn := fun _ => fun
  | [d1, d2, d3] => { results := [.lit (.bool false)], args := [d1, d2, d3] }
  | _ => none }
def SearchDigestsWrongFalsely : Prop := searchDigestsRow.holds Tryd.pinned (OpenSpec.ofChange searchDigestsWrong)

/-- 'tallyhouselaw15.SearchBack': WHATEVER THE INPUT: true; the input reads as it did. -/
def searchBackSpec : ChangeSpec := { name := "searchBack", fn := fun _ => fun
  | [d1, d2] => { results := [.lit (.bool true)], args := [d1, d2] }
  | _ => none }
def searchBackRow : OpenClaim := { program := "ytbobamifpjlmiaadoor", sum := "a2c0249b367405ecb242e0a7dd11281501e27c36ff4abc528c97743b735d8c1e", func := "tallyhouse/tallyhouselaw15.SearchBack", spec := "searchBack", inPlace := ["internal/bytealg.abigen_runtime_cmpstring"], unfollowed := true, recurses := true, named := ["tallyhouse/blake.start", "tallyhouse/blake.orders", "tallyhouse/blake.fours"], apart := false, laid := [("tallyhouse/blake.start", laid_tallyhouse_blake_start), ("tallyhouse/blake.orders", laid_tallyhouse_blake_orders), ("tallyhouse/blake.fours", laid_tallyhouse_blake_fours)] }
def SearchBackSaid : Prop := searchBackRow.holds Tryd.pinned (OpenSpec.ofChange searchBackSpec)

/-- ITS FALSE NEIGHBOUR: 'it returns false'. Refute it at one input. -/
def searchBackWrong : ChangeSpec := { name := "searchBack", fn := fun _ => fun
  | [d1, d2] => { results := [.lit (.bool false)], args := [d1, d2] }
  | _ => none }
def SearchBackWrongFalsely : Prop := searchBackRow.holds Tryd.pinned (OpenSpec.ofChange searchBackWrong)

/-- 'tallyhouselaw16.HistoryGrowths': WHATEVER THE INPUT: true; the input reads as it did. -/
def historyGrowthsSpec : ChangeSpec := { name := "historyGrowths", fn := fun _ => fun
  | [d1, d2] => { results := [.lit (.bool true)], args := [d1, d2] }
  | _ => none }
def historyGrowthsRow : OpenClaim := { program := "ytbobamifpjlmiaadoor", sum := "a2c0249b367405ecb242e0a7dd11281501e27c36ff4abc528c97743b735d8c1e", func := "tallyhouse/tallyhouselaw16.HistoryGrowths", spec := "historyGrowths", unfollowed := true, recurses := true, named := ["tallyhouse/blake.start", "tallyhouse/blake.orders", "tallyhouse/blake.fours"], apart := false, laid := [("tallyhouse/blake.start", laid_tallyhouse_blake_start), ("tallyhouse/blake.orders", laid_tallyhouse_blake_orders), ("tallyhouse/blake.fours", laid_tallyhouse_blake_fours)] }
def HistoryGrowthsSaid : Prop := historyGrowthsRow.holds Tryd.pinned (OpenSpec.ofChange historyGrowthsSpec)

/-- ITS FALSE NEIGHBOUR: 'it returns false'. Refute it at one input. -/
def historyGrowthsWrong : ChangeSpec := { name := "historyGrowths", fn := fun _ => fun
  | [d1, d2] => { results := [.lit (.bool false)], args := [d1, d2] }
  | _ => none }
def HistoryGrowthsWrongFalsely : Prop := historyGrowthsRow.holds Tryd.pinned (OpenSpec.ofChange historyGrowthsWrong)

/-- 'tallyhouselaw16.HistoryGrows': WHATEVER THE INPUT: true; the input reads as it did. -/
def historyGrowsSpec : ChangeSpec := { name := "historyGrows", fn := fun _ => fun
  | [d1, d2] => { results := [.lit (.bool true)], args := [d1, d2] }
  | _ => none }
def historyGrowsRow : OpenClaim := { program := "ytbobamifpjlmiaadoor", sum := "a2c0249b367405ecb242e0a7dd11281501e27c36ff4abc528c97743b735d8c1e", func := "tallyhouse/tallyhouselaw16.HistoryGrows", spec := "historyGrows", unfollowed := true, recurses := true, named := ["tallyhouse/blake.start", "tallyhouse/blake.orders", "tallyhouse/blake.fours"], apart := false, laid := [("tallyhouse/blake.start", laid_tallyhouse_blake_start), ("tallyhouse/blake.orders", laid_tallyhouse_blake_orders), ("tallyhouse/blake.fours", laid_tallyhouse_blake_fours)] }
def HistoryGrowsSaid : Prop := historyGrowsRow.holds Tryd.pinned (OpenSpec.ofChange historyGrowsSpec)

/-- ITS FALSE NEIGHBOUR: 'it returns false'. Refute it at one input. -/
def historyGrowsWrong : ChangeSpec := { name := "historyGrows", fn := fun _ => fun
  | [d1, d2] => { results := [.lit (.bool false)], args := [d1, d2] }
  | _ => none }
def HistoryGrowsWrongFalsely : Prop := historyGrowsRow.holds Tryd.pinned (OpenSpec.ofChange historyGrowsWrong)

/- THE SECOND FORM. 'bulk': how many values and letters a reading holds, each counted each time it is reached (what is shared counts as often as it is met; a slice's spare places count too). A statement '..UptoSaid' is the law's where the arguments, and the package variables that the reading takes, are together of bulk at most 1048576: NARROWER than '..Said'. Prove '..Said' where nothing that the law and all that it calls make is longer than what came in: it says more and counts as full. Else prove '..UptoSaid'. A law counts once. -/
mutual
def uptoBulk {H : Type} : DataW H → Nat
  | .lit (.string bytes) => bytes.length + 1
  | .lit _ => 1
  | .nil => 1
  | .ptr d => uptoBulk d + 1
  | .slice elems spare => uptoBulkAll elems + uptoBulkAll spare + 1
  | .agg parts => uptoBulkAll parts + 1
  | .iface _ d => uptoBulk d + 1
  | .map entries => uptoBulkEntries entries + 1
  | .held _ => 1
def uptoBulkAll {H : Type} : List (DataW H) → Nat
  | [] => 0
  | d :: r => uptoBulk d + uptoBulkAll r
def uptoBulkEntries {H : Type} : List (Lit × DataW H) → Nat
  | [] => 0
  | x :: r => uptoBulkEntry x + uptoBulkEntries r
def uptoBulkEntry {H : Type} : Lit × DataW H → Nat
  | (.string bytes, d) => bytes.length + uptoBulk d + 1
  | (_, d) => uptoBulk d + 1
 end
def uptoSmall : (H : Type) → List (DataW H) → Bool := fun _ ds => decide (uptoBulkAll ds ≤ 1048576)
def OpenSpec.upto (s : _root_.Go.ChangeSpec) : _root_.Go.OpenSpec := { _root_.Go.OpenSpec.ofChange s with cond := some uptoSmall }

/-- 'tallyhouselaw16.HistoryRoots', WHERE WHAT IT READS IS OF BULK AT MOST 1048576: true; the input reads as it did. -/
def historyRootsUptoRow : OpenClaim := { program := "ytbobamifpjlmiaadoor", sum := "a2c0249b367405ecb242e0a7dd11281501e27c36ff4abc528c97743b735d8c1e", func := "tallyhouse/tallyhouselaw16.HistoryRoots", spec := "historyRoots", unfollowed := true, recurses := true, named := ["tallyhouse/blake.start", "tallyhouse/blake.orders", "tallyhouse/blake.fours"], apart := false, laid := [("tallyhouse/blake.start", laid_tallyhouse_blake_start), ("tallyhouse/blake.orders", laid_tallyhouse_blake_orders), ("tallyhouse/blake.fours", laid_tallyhouse_blake_fours)], narrowed := true }
def HistoryRootsUptoSaid : Prop := historyRootsUptoRow.holds Tryd.pinned (OpenSpec.upto historyRootsSpec)

/-- 'tallyhouselaw16.HistoryDigests', WHERE WHAT IT READS IS OF BULK AT MOST 1048576: true; the input reads as it did. -/
def historyDigestsUptoRow : OpenClaim := { program := "ytbobamifpjlmiaadoor", sum := "a2c0249b367405ecb242e0a7dd11281501e27c36ff4abc528c97743b735d8c1e", func := "tallyhouse/tallyhouselaw16.HistoryDigests", spec := "historyDigests", unfollowed := true, recurses := true, named := ["tallyhouse/blake.start", "tallyhouse/blake.orders", "tallyhouse/blake.fours"], apart := false, laid := [("tallyhouse/blake.start", laid_tallyhouse_blake_start), ("tallyhouse/blake.orders", laid_tallyhouse_blake_orders), ("tallyhouse/blake.fours", laid_tallyhouse_blake_fours)], narrowed := true }
def HistoryDigestsUptoSaid : Prop := historyDigestsUptoRow.holds Tryd.pinned (OpenSpec.upto historyDigestsSpec)

/-- 'tallyhouselaw16.HistoryClimbs', WHERE WHAT IT READS IS OF BULK AT MOST 1048576: true; the input reads as it did. -/
def historyClimbsUptoRow : OpenClaim := { program := "ytbobamifpjlmiaadoor", sum := "a2c0249b367405ecb242e0a7dd11281501e27c36ff4abc528c97743b735d8c1e", func := "tallyhouse/tallyhouselaw16.HistoryClimbs", spec := "historyClimbs", unfollowed := true, recurses := true, named := ["tallyhouse/blake.start", "tallyhouse/blake.orders", "tallyhouse/blake.fours"], apart := false, laid := [("tallyhouse/blake.start", laid_tallyhouse_blake_start), ("tallyhouse/blake.orders", laid_tallyhouse_blake_orders), ("tallyhouse/blake.fours", laid_tallyhouse_blake_fours)], narrowed := true }
def HistoryClimbsUptoSaid : Prop := historyClimbsUptoRow.holds Tryd.pinned (OpenSpec.upto historyClimbsSpec)

/-- 'tallyhouselaw16.HistoryHalves', WHERE WHAT IT READS IS OF BULK AT MOST 1048576: true; the input reads as it did. -/
def historyHalvesUptoRow : OpenClaim := { program := "ytbobamifpjlmiaadoor", sum := "a2c0249b367405ecb242e0a7dd11281501e27c36ff4abc528c97743b735d8c1e", func := "tallyhouse/tallyhouselaw16.HistoryHalves", spec := "historyHalves", unfollowed := true, recurses := true, named := ["tallyhouse/blake.start", "tallyhouse/blake.orders", "tallyhouse/blake.fours"], apart := false, laid := [("tallyhouse/blake.start", laid_tallyhouse_blake_start), ("tallyhouse/blake.orders", laid_tallyhouse_blake_orders), ("tallyhouse/blake.fours", laid_tallyhouse_blake_fours)], narrowed := true }
def HistoryHalvesUptoSaid : Prop := historyHalvesUptoRow.holds Tryd.pinned (OpenSpec.upto historyHalvesSpec)

/-- 'tallyhouselaw16.HistoryProves', WHERE WHAT IT READS IS OF BULK AT MOST 1048576: true; the input reads as it did. -/
def historyProvesUptoRow : OpenClaim := { program := "ytbobamifpjlmiaadoor", sum := "a2c0249b367405ecb242e0a7dd11281501e27c36ff4abc528c97743b735d8c1e", func := "tallyhouse/tallyhouselaw16.HistoryProves", spec := "historyProves", unfollowed := true, recurses := true, named := ["tallyhouse/blake.start", "tallyhouse/blake.orders", "tallyhouse/blake.fours"], apart := false, laid := [("tallyhouse/blake.start", laid_tallyhouse_blake_start), ("tallyhouse/blake.orders", laid_tallyhouse_blake_orders), ("tallyhouse/blake.fours", laid_tallyhouse_blake_fours)], narrowed := true }
def HistoryProvesUptoSaid : Prop := historyProvesUptoRow.holds Tryd.pinned (OpenSpec.upto historyProvesSpec)

/-- 'tallyhouselaw15.SearchRoots', WHERE WHAT IT READS IS OF BULK AT MOST 1048576: true; the input reads as it did. -/
def searchRootsUptoRow : OpenClaim := { program := "ytbobamifpjlmiaadoor", sum := "a2c0249b367405ecb242e0a7dd11281501e27c36ff4abc528c97743b735d8c1e", func := "tallyhouse/tallyhouselaw15.SearchRoots", spec := "searchRoots", inPlace := ["internal/bytealg.abigen_runtime_cmpstring"], unfollowed := true, recurses := true, named := ["tallyhouse/blake.start", "tallyhouse/blake.orders", "tallyhouse/blake.fours"], apart := false, laid := [("tallyhouse/blake.start", laid_tallyhouse_blake_start), ("tallyhouse/blake.orders", laid_tallyhouse_blake_orders), ("tallyhouse/blake.fours", laid_tallyhouse_blake_fours)], narrowed := true }
def SearchRootsUptoSaid : Prop := searchRootsUptoRow.holds Tryd.pinned (OpenSpec.upto searchRootsSpec)

/-- 'tallyhouselaw15.SearchProves', WHERE WHAT IT READS IS OF BULK AT MOST 1048576: true; the input reads as it did. -/
def searchProvesUptoRow : OpenClaim := { program := "ytbobamifpjlmiaadoor", sum := "a2c0249b367405ecb242e0a7dd11281501e27c36ff4abc528c97743b735d8c1e", func := "tallyhouse/tallyhouselaw15.SearchProves", spec := "searchProves", inPlace := ["internal/bytealg.abigen_runtime_cmpstring"], unfollowed := true, recurses := true, named := ["tallyhouse/blake.start", "tallyhouse/blake.orders", "tallyhouse/blake.fours"], apart := false, laid := [("tallyhouse/blake.start", laid_tallyhouse_blake_start), ("tallyhouse/blake.orders", laid_tallyhouse_blake_orders), ("tallyhouse/blake.fours", laid_tallyhouse_blake_fours)], narrowed := true }
def SearchProvesUptoSaid : Prop := searchProvesUptoRow.holds Tryd.pinned (OpenSpec.upto searchProvesSpec)

/-- 'tallyhouselaw15.SearchVerifies', WHERE WHAT IT READS IS OF BULK AT MOST 1048576: true; the input reads as it did. -/
def searchVerifiesUptoRow : OpenClaim := { program := "ytbobamifpjlmiaadoor", sum := "a2c0249b367405ecb242e0a7dd11281501e27c36ff4abc528c97743b735d8c1e", func := "tallyhouse/tallyhouselaw15.SearchVerifies", spec := "searchVerifies", inPlace := ["internal/bytealg.abigen_runtime_cmpstring"], unfollowed := true, recurses := true, named := ["tallyhouse/blake.start", "tallyhouse/blake.orders", "tallyhouse/blake.fours"], apart := false, laid := [("tallyhouse/blake.start", laid_tallyhouse_blake_start), ("tallyhouse/blake.orders", laid_tallyhouse_blake_orders), ("tallyhouse/blake.fours", laid_tallyhouse_blake_fours)], narrowed := true }
def SearchVerifiesUptoSaid : Prop := searchVerifiesUptoRow.holds Tryd.pinned (OpenSpec.upto searchVerifiesSpec)

/-- 'tallyhouselaw15.SearchDigests', WHERE WHAT IT READS IS OF BULK AT MOST 1048576: true; the input reads as it did. -/
def searchDigestsUptoRow : OpenClaim := { program := "ytbobamifpjlmiaadoor", sum := "a2c0249b367405ecb242e0a7dd11281501e27c36ff4abc528c97743b735d8c1e", func := "tallyhouse/tallyhouselaw15.SearchDigests", spec := "searchDigests", inPlace := ["internal/bytealg.abigen_runtime_cmpstring"], unfollowed := true, recurses := true, named := ["tallyhouse/blake.start", "tallyhouse/blake.orders", "tallyhouse/blake.fours"], apart := false, laid := [("tallyhouse/blake.start", laid_tallyhouse_blake_start), ("tallyhouse/blake.orders", laid_tallyhouse_blake_orders), ("tallyhouse/blake.fours", laid_tallyhouse_blake_fours)], narrowed := true }
def SearchDigestsUptoSaid : Prop := searchDigestsUptoRow.holds Tryd.pinned (OpenSpec.upto searchDigestsSpec)

/-- 'tallyhouselaw15.SearchBack', WHERE WHAT IT READS IS OF BULK AT MOST 1048576: true; the input reads as it did. -/
def searchBackUptoRow : OpenClaim := { program := "ytbobamifpjlmiaadoor", sum := "a2c0249b367405ecb242e0a7dd11281501e27c36ff4abc528c97743b735d8c1e", func := "tallyhouse/tallyhouselaw15.SearchBack", spec := "searchBack", inPlace := ["internal/bytealg.abigen_runtime_cmpstring"], unfollowed := true, recurses := true, named := ["tallyhouse/blake.start", "tallyhouse/blake.orders", "tallyhouse/blake.fours"], apart := false, laid := [("tallyhouse/blake.start", laid_tallyhouse_blake_start), ("tallyhouse/blake.orders", laid_tallyhouse_blake_orders), ("tallyhouse/blake.fours", laid_tallyhouse_blake_fours)], narrowed := true }
def SearchBackUptoSaid : Prop := searchBackUptoRow.holds Tryd.pinned (OpenSpec.upto searchBackSpec)

/-- 'tallyhouselaw16.HistoryGrowths', WHERE WHAT IT READS IS OF BULK AT MOST 1048576: true; the input reads as it did. -/
def historyGrowthsUptoRow : OpenClaim := { program := "ytbobamifpjlmiaadoor", sum := "a2c0249b367405ecb242e0a7dd11281501e27c36ff4abc528c97743b735d8c1e", func := "tallyhouse/tallyhouselaw16.HistoryGrowths", spec := "historyGrowths", unfollowed := true, recurses := true, named := ["tallyhouse/blake.start", "tallyhouse/blake.orders", "tallyhouse/blake.fours"], apart := false, laid := [("tallyhouse/blake.start", laid_tallyhouse_blake_start), ("tallyhouse/blake.orders", laid_tallyhouse_blake_orders), ("tallyhouse/blake.fours", laid_tallyhouse_blake_fours)], narrowed := true }
def HistoryGrowthsUptoSaid : Prop := historyGrowthsUptoRow.holds Tryd.pinned (OpenSpec.upto historyGrowthsSpec)

/-- 'tallyhouselaw16.HistoryGrows', WHERE WHAT IT READS IS OF BULK AT MOST 1048576: true; the input reads as it did. -/
def historyGrowsUptoRow : OpenClaim := { program := "ytbobamifpjlmiaadoor", sum := "a2c0249b367405ecb242e0a7dd11281501e27c36ff4abc528c97743b735d8c1e", func := "tallyhouse/tallyhouselaw16.HistoryGrows", spec := "historyGrows", unfollowed := true, recurses := true, named := ["tallyhouse/blake.start", "tallyhouse/blake.orders", "tallyhouse/blake.fours"], apart := false, laid := [("tallyhouse/blake.start", laid_tallyhouse_blake_start), ("tallyhouse/blake.orders", laid_tallyhouse_blake_orders), ("tallyhouse/blake.fours", laid_tallyhouse_blake_fours)], narrowed := true }
def HistoryGrowsUptoSaid : Prop := historyGrowsUptoRow.holds Tryd.pinned (OpenSpec.upto historyGrowsSpec)

end Rows
end Go.Proofs.YtbobamifpjlmiaaDoor
