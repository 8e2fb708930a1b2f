/- Digests that a row holds. -/
import Derived.Test.YtbobamifpjlmiaaDoorC
import Derived.Test.YtbobamifpjlmiaaDoorDg
set_option linter.unusedSimpArgs false
set_option linter.unusedVariables false
set_option maxRecDepth 20000
namespace Go.Proofs.YtbobamifpjlmiaaDoor
open Go.RowKit
def dgs (n : Nat) (E : Nat → (Nat → UInt8)) : List Dg := (List.range n).map fun i => ofF (E i)
theorem dgs_len (n : Nat) (E : Nat → (Nat → UInt8)) : (dgs n E).length = n := by simp [dgs]
theorem row_ofF (f : Nat → UInt8) : rowB 32 (dF (ofF f)) = rowB 32 f := rowB_congr fun i hi => dF_ofF f i hi
theorem sld_of_sln {w : World} {a : Option Addr} {n : Nat} {E : Nat → (Nat → UInt8)} (h : SlN w a n 32 fun i => rowB 32 (E i)) : SlD w a (dgs n E) := by
  rcases h.out with rfl | ⟨g, off, h1, h2, h3⟩
  · exact ⟨Or.inl rfl⟩
  · refine ⟨Or.inr ⟨g, off, h1, h2, fun i d hd => ?_⟩⟩
    have hi : i < n := by
      have := (List.getElem?_eq_some_iff.1 hd).1
      rwa [dgs_len] at this
    unfold dgs at hd
    rw [List.getElem?_map, List.getElem?_range hi] at hd
    obtain rfl : ofF (E i) = d := by simpa using hd
    rw [h3 i hi, row_ofF]
end Go.Proofs.YtbobamifpjlmiaaDoor
