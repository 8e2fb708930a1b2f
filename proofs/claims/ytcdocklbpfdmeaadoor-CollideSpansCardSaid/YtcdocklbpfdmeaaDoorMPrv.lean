import Derived.Test.YtcdocklbpfdmeaaDoorMTree
import Derived.Test.YtcdocklbpfdmeaaDoorMSeq

/- Prove: the span of a range. -/
set_option linter.unusedSimpArgs false
set_option linter.unusedVariables false
set_option maxRecDepth 20000
namespace Go.Proofs.YtcdocklbpfdmeaaDoor
open Go.RowKit
theorem info_span : (Tryd.prog.info? 27).map (·.size) = some 4 := by kernel_rfl
@[go_sem] theorem load_span (b o : Nat) (w : World) : loadRun Tryd.prog 27 (.pointer (some ⟨b, o, none⟩)) w = match cellsN w b o 4 with | some cs => .ok (.value (.agg cs)) w | none => loadRaw Tryd.prog 27 (.pointer (some ⟨b, o, none⟩)) w := loadRun_row Tryd.underlying27 rfl info_span b o w
@[go_sem] theorem store_span (b o : Nat) (vs : Array Value) (w : World) : storeRun Tryd.prog 27 (.pointer (some ⟨b, o, none⟩)) (.agg vs) w = if (vs.size == 4 && (cellsN w b o 4).isSome && !frozenN w b o 4 && oneCells vs) = true then .ok .skip (w.setCells b o vs.toList) else storeRaw Tryd.prog 27 (.pointer (some ⟨b, o, none⟩)) (.agg vs) w := storeRun_row info_span b o vs w
@[go_sem high] theorem eqlnil_cell (a : Option Addr) (n c : Nat) (w : World) : (binOp .eql 22 (.slice a n c) (.slice none 0 0)).run Tryd.prog w = .ok (.bool a.isNone) w := _root_.Go.run_eql_slice_nil w _ _ a n c Tryd.underlying22
end Go.Proofs.YtcdocklbpfdmeaaDoor

/- What the root of a span keeps while the tree is climbed. -/
set_option linter.unusedSimpArgs false
set_option linter.unusedVariables false
set_option maxRecDepth 20000
namespace Go.Proofs.YtcdocklbpfdmeaaDoor
open Go.RowKit
end Go.Proofs.YtcdocklbpfdmeaaDoor

/- Collide's plain law: by the whole width a span's top is Search's (checked stand-alone). -/
set_option linter.unusedSimpArgs false
set_option linter.unusedVariables false
set_option linter.unnecessarySimpa false
namespace Go.Proofs.YtcdocklbpfdmeaaDoor
attribute [local irreducible] sumD
/-! ### By the whole width: spans -/
end Go.Proofs.YtcdocklbpfdmeaaDoor

/- Top: the root that a span is of. -/
set_option linter.unusedSimpArgs false
set_option linter.unusedVariables false
set_option maxRecDepth 20000
namespace Go.Proofs.YtcdocklbpfdmeaaDoor
open Go.RowKit
def okS (t f : Int) (ps : List Pr) : Prop := 0 ≤ t ∧ t ≤ 200 ∧ 0 ≤ f ∧ (ps.length : Int) ≤ t ∧ f ≤ t - ps.length ∧ rightP ps = true
instance (t f : Int) (ps : List Pr) : Decidable (okS t f ps) := by unfold okS; infer_instance
end Go.Proofs.YtcdocklbpfdmeaaDoor

/- Verify: what stands in a range, by a span. -/
set_option linter.unusedSimpArgs false
set_option linter.unusedVariables false
set_option maxRecDepth 20000
namespace Go.Proofs.YtcdocklbpfdmeaaDoor
open Go.RowKit
def keyAt (ps : List Pr) (i : Nat) : ByteArray := (prAt ps i).1
@[go_sem] theorem buildRun_cell (s t : ByteArray) (w : World) : buildRun Tryd.prog 22 (.agg #[.string s, .string t]) w = .ok (.value (.slice (some ⟨w.heap.size, 0, none⟩) 1 1)) (w.alloc (.cells #[.string s, .string t] 42)) := by
  unfold buildRun
  have hi : (Tryd.prog.info? 42).map (fun i => (i.zero, i.size)) = some (some (.agg #[.string ⟨#[]⟩, .string ⟨#[]⟩]), 2) := by kernel_rfl
  obtain ⟨i, hi1, hi2⟩ := Option.map_eq_some_iff.1 hi
  simp only [Prod.mk.injEq] at hi2
  simp [Instr.buildSlice, run_underlying Tryd.underlying22, Go.sizeOf, typeInfo, zeroValue, hi1, hi2.1, hi2.2, Instr.fill, Value.cells, newRow, go_sem]
end Go.Proofs.YtcdocklbpfdmeaaDoor

/- Search: the document's top; what is proved is accepted. The plain law. -/
set_option linter.unusedSimpArgs false
set_option linter.unusedVariables false
set_option maxRecDepth 20000
namespace Go.Proofs.YtcdocklbpfdmeaaDoor
open Go.RowKit
end Go.Proofs.YtcdocklbpfdmeaaDoor
