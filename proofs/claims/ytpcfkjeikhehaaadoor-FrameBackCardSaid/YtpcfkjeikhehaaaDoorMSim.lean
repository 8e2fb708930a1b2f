import Derived.Test.YtpcfkjeikhehaaaDoorMFrFew

/- What lies above a height is kept, where a new block below it has other contents. -/
set_option linter.unusedSimpArgs false
set_option linter.unusedVariables false
set_option maxRecDepth 20000
namespace Go.Proofs.YtpcfkjeikhehaaaDoor
open Go.RowKit
/-- Two worlds alike above a height. -/
structure Sim (Z : Nat) (u w : World) : Prop where
  size : u.heap.size = w.heap.size
  same : ∀ b, Z ≤ b → w.heap[b]? = u.heap[b]?
theorem Sim.refl (Z : Nat) (w : World) : Sim Z w w := ⟨rfl, fun _ _ => rfl⟩
theorem alloc_heap (w : World) (o : Obj) (k : Nat) : (w.alloc o).heap[k]? = if k < w.heap.size then w.heap[k]? else if k = w.heap.size then some o else none := by
  split
  · exact ex_of_alloc _ _ _ ‹_›
  · split
    · rename_i h; subst h; exact heap_alloc_new w o
    · rename_i h1 h2
      refine Array.getElem?_eq_none ?_
      have : (w.alloc o).heap.size = w.heap.size + 1 := by simp [go_sem]
      omega
theorem wx_heap2 (w : World) (X : More) (k : Nat) : (wx w X).heap[k]? = if k < w.heap.size then w.heap[k]? else X.blocks[k - w.heap.size]? := by
  split
  · exact wx_heap w X k ‹_›
  · rename_i h
    have := wx_heap_more w X (k - w.heap.size)
    rw [show w.heap.size + (k - w.heap.size) = k by omega] at this
    exact this
theorem Sim.wx {Z : Nat} {u w : World} (h : Sim Z u w) (X : More) : Sim Z (wx u X) (wx w X) := by
  refine ⟨by rw [wx_size, wx_size, h.size], fun b hb => ?_⟩
  rw [wx_heap2, wx_heap2, h.size, h.same b hb]
theorem Sim.alloc {Z : Nat} {u w : World} (h : Sim Z u w) (o : Obj) : Sim Z (u.alloc o) (w.alloc o) := by
  have h1 : (u.alloc o).heap.size = u.heap.size + 1 := by simp [go_sem]
  have h2 : (w.alloc o).heap.size = w.heap.size + 1 := by simp [go_sem]
  refine ⟨by rw [h1, h2, h.size], fun b hb => ?_⟩
  rw [alloc_heap, alloc_heap, h.size, h.same b hb]
theorem Sim.turn {Z : Nat} {u w : World} (h : Sim Z u w) (o o' : Obj) (hz : u.heap.size < Z) : Sim Z (u.alloc o) (w.alloc o') := by
  have h1 : (u.alloc o).heap.size = u.heap.size + 1 := by simp [go_sem]
  have h2 : (w.alloc o').heap.size = w.heap.size + 1 := by simp [go_sem]
  refine ⟨by rw [h1, h2, h.size], fun b hb => ?_⟩
  rw [Array.getElem?_eq_none (by rw [h2]; have := h.size; omega), Array.getElem?_eq_none (by rw [h1]; omega)]
theorem Keep.ofSim {Z : Nat} {u w : World} (h : Sim Z u w) : Keep Z u w := ⟨Nat.le_of_eq h.size, fun b hb _ => h.same b hb⟩
theorem Keep.allocR {Z : Nat} {u w : World} (h : Keep Z u w) (o : Obj) : Keep Z u (w.alloc o) := h.trans (Keep.ofEx (ex_alloc (ex_refl _) _))
theorem Keep.wxR {Z : Nat} {u w : World} (h : Keep Z u w) (X : More) : Keep Z u (wx w X) := h.trans (Keep.ofEx ⟨X, rfl⟩)
theorem Keep.appR {Z : Nat} {u w : World} {X : More} (h : Keep Z u (wx w X)) (Y : More) : Keep Z u (wx w (X.app Y)) := h.trans (Keep.ofEx (ex_app w X Y))
end Go.Proofs.YtpcfkjeikhehaaaDoor
