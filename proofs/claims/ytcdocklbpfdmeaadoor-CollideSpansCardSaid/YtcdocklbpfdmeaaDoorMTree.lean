import Derived.Test.YtcdocklbpfdmeaaDoorMLeafR
import Derived.Test.YtcdocklbpfdmeaaDoorMSeqH
import Derived.Lib.Strings
import Derived.Lib.Slices
import Derived.Lib.Walk
import Derived.Lib.Bytealg
import Derived.Test.YtcdocklbpfdmeaaDoorMCoS
import Derived.Maps.AppendAt

/- climb: a tree over pairs, by whatever tells the digests of its parts and keeps a state in memory. -/
set_option linter.unusedSimpArgs false
set_option linter.unusedVariables false
set_option maxRecDepth 20000
namespace Go.Proofs.YtcdocklbpfdmeaaDoor
open Go.RowKit
theorem block_cells {w : World} {b n : Nat} {cs : Array Value} {t : TypeId} (h : w.heap[b]? = some (.cells cs t (0, 0))) (hn : cs.size = n) : cellsN w b 0 n = some cs ∧ frozenN w b 0 n = false ∧ b < w.heap.size := by
  subst hn
  refine ⟨cellsN_some.2 ⟨rfl, fun j hj => ?_⟩, frozenN_false.2 fun j hj => ?_, (Array.getElem?_eq_some_iff.1 h).1⟩
  · rw [Nat.zero_add, cell_of_row w b j cs t (0, 0) h]
  · simp [World.frozen?, h]
end Go.Proofs.YtcdocklbpfdmeaaDoor

/- Root of pairs. -/
set_option linter.unusedSimpArgs false
set_option linter.unusedVariables false
set_option maxRecDepth 20000
namespace Go.Proofs.YtcdocklbpfdmeaaDoor
open Go.RowKit
theorem ex_setCells {A w : World} (k : Ex A w) {b : Nat} (hb : A.heap.size ≤ b) (o : Nat) (vs : List Value) : Ex A (w.setCells b o vs) :=
  ex_of_below ((ex_below k).trans (setCells_below hb vs o w))
end Go.Proofs.YtcdocklbpfdmeaaDoor

/- Root of pairs: both texts. -/
set_option linter.unusedSimpArgs false
set_option linter.unusedVariables false
set_option maxRecDepth 20000
namespace Go.Proofs.YtcdocklbpfdmeaaDoor
open Go.RowKit
@[go_sem] theorem lit_z32 : Value.agg #[.int .u8 0, .int .u8 0, .int .u8 0, .int .u8 0, .int .u8 0, .int .u8 0, .int .u8 0, .int .u8 0, .int .u8 0, .int .u8 0, .int .u8 0, .int .u8 0, .int .u8 0, .int .u8 0, .int .u8 0, .int .u8 0, .int .u8 0, .int .u8 0, .int .u8 0, .int .u8 0, .int .u8 0, .int .u8 0, .int .u8 0, .int .u8 0, .int .u8 0, .int .u8 0, .int .u8 0, .int .u8 0, .int .u8 0, .int .u8 0, .int .u8 0, .int .u8 0] = .agg (rowB 32 fun _ => 0) := by kernel_rfl
theorem right_len {l : List Pr} (h : rightP l = true) : l.length ≤ 200 := by
  rcases Nat.lt_or_ge 200 l.length with h2 | h2
  · have := right_iff.1 h 200 h2
    simp [badAt] at this
  · exact h2
theorem right_size {l : List Pr} (h : rightP l = true) {i : Nat} (hi : i < l.length) : 1 ≤ (prAt l i).1.size ∧ (prAt l i).1.size ≤ 200 ∧ (prAt l i).2.size ≤ 1000 := by
  have h1 := right_iff.1 h i hi
  have h2 : ¬ ((prAt l i).1.size < 1 ∨ 200 < (prAt l i).1.size ∨ 1000 < (prAt l i).2.size ∨ (0 < i ∧ ltS (prAt l (i - 1)).1 (prAt l i).1 = false) ∨ i = 200) := fun hc => by
    rw [(bad_iff l i).2 hc] at h1; cases h1
  omega
end Go.Proofs.YtcdocklbpfdmeaaDoor

/- How many pairs stand ahead of a key: the search by halves. -/
set_option linter.unusedSimpArgs false
set_option linter.unusedVariables false
set_option maxRecDepth 20000
namespace Go.Proofs.YtcdocklbpfdmeaaDoor
open Go.RowKit
/-! ### The law -/
/-! ### The walk -/
end Go.Proofs.YtcdocklbpfdmeaaDoor

/- Collide's plain law: what a span tells is what stands in the range; bytes that tell what they are of (checked stand-alone). -/
set_option linter.unusedSimpArgs false
set_option linter.unusedVariables false
set_option linter.unnecessarySimpa false
namespace Go.Proofs.YtcdocklbpfdmeaaDoor
/-! ### What a span tells, where it is the pairs that are there -/
theorem prAt_mem {l : List Pr} {i : Nat} {p : Pr} (h : l[i]? = some p) : prAt l i = p := by
  unfold prAt; rw [List.getD_eq_getElem?_getD, h]; rfl
/-! ### Bytes that tell what they are of -/
end Go.Proofs.YtcdocklbpfdmeaaDoor

/- What the proof of a range keeps while the tree is climbed. -/
set_option linter.unusedSimpArgs false
set_option linter.unusedVariables false
set_option maxRecDepth 20000
namespace Go.Proofs.YtcdocklbpfdmeaaDoor
open Go.RowKit
theorem block_cell {w : World} {b o : Nat} {cs : Array Value} {t : TypeId} {v : Value} (h : w.heap[b]? = some (.cells cs t (0, 0))) (hv : cs[o]? = some v) : w.cell? ⟨b, o, none⟩ = some v ∧ w.frozen? ⟨b, o, none⟩ = false := by
  refine ⟨?_, ?_⟩
  · rw [cell_of_row w b o cs t (0, 0) h]; exact hv
  · simp [World.frozen?, h]
end Go.Proofs.YtcdocklbpfdmeaaDoor
