import Derived.Test.YtcdocklbpfdmeaaDoorMWords
import Derived.Lib.Hide

/- Slices of bytes that read as bytes; nil, or of no byte, too. -/
set_option linter.unusedSimpArgs false
set_option linter.unusedVariables false
set_option maxRecDepth 20000
namespace Go.Proofs.YtcdocklbpfdmeaaDoor
open Go.RowKit

/-- What lies behind a slice's address: the first n bytes of f. -/
structure SlB (w : World) (a : Option Addr) (n : Nat) (f : Nat → UInt8) : Prop where
  out : n = 0 ∨ ∃ g off, a = some ⟨g, off, none⟩ ∧ g < w.heap.size ∧ ∀ j, j < n → w.cell? ⟨g, off + j, none⟩ = some (B (f j))
theorem SlB.pos {w : World} {a : Option Addr} {n : Nat} {f : Nat → UInt8} (h : SlB w a n f) (hn : 0 < n) : ∃ g off, a = some ⟨g, off, none⟩ ∧ g < w.heap.size ∧ ∀ j, j < n → w.cell? ⟨g, off + j, none⟩ = some (B (f j)) := by
  rcases h.out with h | h
  · omega
  · exact h
theorem SlB.zero (w : World) (a : Option Addr) (f : Nat → UInt8) : SlB w a 0 f := ⟨Or.inl rfl⟩
theorem SlB.mk' {w : World} {g off n : Nat} {f : Nat → UInt8} (hg : g < w.heap.size) (h : ∀ j, j < n → w.cell? ⟨g, off + j, none⟩ = some (B (f j))) : SlB w (some ⟨g, off, none⟩) n f := ⟨Or.inr ⟨g, off, rfl, hg, h⟩⟩
theorem SlB.wx {w : World} {a : Option Addr} {n : Nat} {f : Nat → UInt8} (h : SlB w a n f) (X : More) : SlB (wx w X) a n f := by
  rcases h.out with h | ⟨g, off, h1, h2, h3⟩
  · exact ⟨Or.inl h⟩
  · exact ⟨Or.inr ⟨g, off, h1, by rw [wx_size]; omega, fun j hj => by rw [wx_cell _ _ _ h2]; exact h3 j hj⟩⟩
theorem SlB.ex {w w' : World} {a : Option Addr} {n : Nat} {f : Nat → UInt8} (h : SlB w a n f) (k : Ex w w') : SlB w' a n f := by
  obtain ⟨X, rfl⟩ := k; exact h.wx X
theorem SlB.cells {w : World} {g off n : Nat} {f : Nat → UInt8} (h : ∀ j, j < n → w.cell? ⟨g, off + j, none⟩ = some (B (f j))) (k m : Nat) (hk : k + m ≤ n) : cellsN w g (off + k) m = some (rowB m (shiftF f k)) := by
  refine cellsN_some.2 ⟨by simp, fun j hj => ?_⟩
  rw [Nat.add_assoc, h (k + j) (by omega), rowB_get, if_pos hj]; rfl
theorem SlB.congr {w : World} {a : Option Addr} {n : Nat} {f g : Nat → UInt8} (h : SlB w a n f) (e : ∀ i, i < n → f i = g i) : SlB w a n g := by
  rcases h.out with h | ⟨b, off, h1, h2, h3⟩
  · exact ⟨Or.inl h⟩
  · exact ⟨Or.inr ⟨b, off, h1, h2, fun j hj => by rw [← e j hj]; exact h3 j hj⟩⟩
/-- Where nothing goes over. -/
@[go_sem] theorem copy_none_u8 (ty sT n c : Nat) (d a : Option Addr) (c' : Nat) (w : World) : copyRun Tryd.prog #[35, sT] ty (.slice d n c) (.slice a 0 c') w = .ok (.value (.int .i64 0)) w := by
  unfold copyRun
  rw [run_copy_none w 35 sT ty 5 d a n c 0 c' Tryd.underlying35 (by kernel_rfl) (Nat.zero_min _)]; rfl
end Go.Proofs.YtcdocklbpfdmeaaDoor
