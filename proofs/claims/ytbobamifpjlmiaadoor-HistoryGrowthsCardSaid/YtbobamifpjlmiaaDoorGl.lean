/- The package's variables; Sum, Block in whatever later world. -/
import Derived.Test.YtbobamifpjlmiaaDoorSum
set_option linter.unusedSimpArgs false
set_option linter.unusedVariables false
set_option maxRecDepth 20000
namespace Go.Proofs.YtbobamifpjlmiaaDoor
open Go.RowKit
/-- The package's variables. -/
structure Glob (w : World) : Prop where
  g0 : cellsN w 0 0 8 = some (rowU 8 startF)
  g1 : cellsN w 1 0 160 = some (rowI 160 ordersF)
  g2 : cellsN w 2 0 32 = some (rowI 32 foursF)
  z0 : 0 < w.heap.size
  z1 : 1 < w.heap.size
  z2 : 2 < w.heap.size
theorem Glob.wx {w : World} (h : Glob w) (X : More) : Glob (wx w X) := by
  obtain ⟨g0, g1, g2, z0, z1, z2⟩ := h
  exact ⟨by simp [go_sem, g0, z0], by simp [go_sem, g1, z1], by simp [go_sem, g2, z2], by simp [go_sem]; omega, by simp [go_sem]; omega, by simp [go_sem]; omega⟩
theorem Glob.ex {w w' : World} (h : Glob w) (k : Ex w w') : Glob w' := by
  obtain ⟨X, rfl⟩ := k; exact h.wx X
theorem sum_glob {w w' : World} (G : Glob w) (k : Ex w w') (a : Option Addr) (n cap : Nat) (f : Nat → UInt8) (hn : n ≤ cap) (hcap : cap ≤ maxLen) (hn48 : n ≤ 281474976710656) (hs : SlB w' a n f) :
    Calls Tryd.prog 66 #[.slice a n cap] w' (Post w' (.agg (rowB 32 (sumF f n)))) := by
  have G' := G.ex k
  exact sum_any a n cap f w' hn hcap hn48 hs G'.g0 G'.g1 G'.g2 G'.z0 G'.z1 G'.z2
theorem block_glob {w w' : World} (G : Glob w) (k : Ex w w') (H : Nat → UInt32) (b : Nat → UInt8) (t : UInt64) (last : Bool) :
    Calls Tryd.prog 94 #[.agg (rowU 8 H), .agg (rowB 64 b), L t, .bool last] w' (Post w' (.agg (rowU 8 (blockF H b t last)))) := by
  have G' := G.ex k
  exact block_any H b t last w' G'.g0 G'.g1 G'.g2 G'.z0 G'.z1 G'.z2
end Go.Proofs.YtbobamifpjlmiaaDoor
