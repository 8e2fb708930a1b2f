import Derived.Test.YtcdocklbpfdmeaaDoorMOct
import Derived.Test.YtcdocklbpfdmeaaDoorMDg

/- The document's leaf. -/
set_option linter.unusedSimpArgs false
set_option linter.unusedVariables false
set_option maxRecDepth 20000
namespace Go.Proofs.YtcdocklbpfdmeaaDoor
open Go.RowKit
@[go_sem high] theorem conv_su8 (s : ByteArray) (w : World) : (convert 9 35 (.string s)).run Tryd.prog w = .ok (.slice (some ⟨w.heap.size, 0, none⟩) s.size (grownCap w s.size 0 5))
      (w.drew.alloc (.cells (bytesRow s (grownCap w s.size 0 5)) 5 ((bytesRow s (grownCap w s.size 0 5)).size, (bytesRow s (grownCap w s.size 0 5)).size + 1))) :=
  run_bytes_of_string w _ _ 5 s Tryd.underlying9 Tryd.underlying35 Tryd.underlying5
theorem SlS.take {w : World} {ad : Addr} {n c : Nat} {l : List UInt8} (h : SlS w (.slice (some ad) n c) l) (k : Nat) (hk : k ≤ n) : SlS w (.slice (some ad) k c) (l.take k) := by
  obtain ⟨ad', c', h1, h2, h3, h4⟩ := h.out
  cases h1
  refine ⟨_, _, by rw [List.length_take, Nat.min_eq_left hk], by rw [List.length_take]; omega, h3, ?_⟩
  rcases h4.out with h | ⟨g, off, h5, h6, h7⟩
  · exact ⟨.inl (by rw [List.length_take]; omega)⟩
  · refine ⟨.inr ⟨g, off, h5, h6, fun j hj => ?_⟩⟩
    rw [List.length_take] at hj
    rw [h7 j (by omega)]
    unfold gF
    rw [List.getD_eq_getElem?_getD, List.getD_eq_getElem?_getD, List.getElem?_take, if_pos (by omega)]
end Go.Proofs.YtcdocklbpfdmeaaDoor

/- Halves; the document's tops and root of pairs. -/
set_option linter.unusedSimpArgs false
set_option linter.unusedVariables false
set_option maxRecDepth 20000
namespace Go.Proofs.YtcdocklbpfdmeaaDoor
open Go.RowKit
end Go.Proofs.YtcdocklbpfdmeaaDoor
