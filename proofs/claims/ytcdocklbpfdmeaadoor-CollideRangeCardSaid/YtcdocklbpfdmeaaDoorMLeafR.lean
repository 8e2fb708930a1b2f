import Derived.Test.YtcdocklbpfdmeaaDoorMOct
import Derived.Test.YtcdocklbpfdmeaaDoorMDg

/- The document's leaf. -/
set_option linter.unusedSimpArgs false
set_option linter.unusedVariables false
set_option maxRecDepth 20000
namespace Go.Proofs.YtcdocklbpfdmeaaDoor
open Go.RowKit
@[go_sem high] theorem conv_su8 (s : ByteArray) (w : World) : (convert 9 35 (.string s)).run Tryd.prog w = .ok (.slice (some ⟨w.heap.size, 0, none⟩) s.size (grownCap w s.size 0 5))
      (w.drew.alloc (.cells (bytesRow s (grownCap w s.size 0 5)) 5 ((bytesRow s (grownCap w s.size 0 5)).size, (bytesRow s (grownCap w s.size 0 5)).size + 1))) :=
  run_bytes_of_string w _ _ 5 s Tryd.underlying9 Tryd.underlying35 Tryd.underlying5
theorem SlS.take {w : World} {ad : Addr} {n c : Nat} {l : List UInt8} (h : SlS w (.slice (some ad) n c) l) (k : Nat) (hk : k ≤ n) : SlS w (.slice (some ad) k c) (l.take k) := by
  obtain ⟨ad', c', h1, h2, h3, h4⟩ := h.out
  cases h1
  refine ⟨_, _, by rw [List.length_take, Nat.min_eq_left hk], by rw [List.length_take]; omega, h3, ?_⟩
  rcases h4.out with h | ⟨g, off, h5, h6, h7⟩
  · exact ⟨.inl (by rw [List.length_take]; omega)⟩
  · refine ⟨.inr ⟨g, off, h5, h6, fun j hj => ?_⟩⟩
    rw [List.length_take] at hj
    rw [h7 j (by omega)]
    unfold gF
    rw [List.getD_eq_getElem?_getD, List.getD_eq_getElem?_getD, List.getElem?_take, if_pos (by omega)]
abbrev wE (w : World) (x y : ByteArray) : World := w.alloc (.cells #[.string x, .string y] 42)
end Go.Proofs.YtcdocklbpfdmeaaDoor

/- Halves; the document's tops and root of pairs. -/
set_option linter.unusedSimpArgs false
set_option linter.unusedVariables false
set_option maxRecDepth 20000
namespace Go.Proofs.YtcdocklbpfdmeaaDoor
open Go.RowKit
theorem half_any (m : Nat) (w : World) (h2 : 2 ≤ m) (hm : m ≤ 1000) : Calls Tryd.prog 102 #[I m] w fun e w' => e = .returned (I (splitN m)) ∧ w = w' := by
  obtain hm2 : m ≤ 1000 := hm
  go_enter Tryd.func102, Tryd.ntmps102
  go_wp2
  go_loopw [3] (fun i wr => ∃ q : Nat, 1 ≤ q ∧ q < m ∧ i = I q ∧ Hid (∃ j, q = 2 ^ j) ∧ wr = w) (fun i _ => m - (intOf i).toNat)
  case atStart => exact ⟨1, by omega, by omega, rfl, Lib.hid ⟨0, rfl⟩, rfl⟩
  case round =>
    obtain ⟨q, hq1, hq2, rfl, hj, rfl⟩ := hrel
    by_cases hlt : 2 * q < m
    · have hlt' : 2 * (q : Int) < m := by omega
      have hlt2 : (q : Int) * 2 < m := by omega
      go_wp2
      refine ⟨⟨2 * q, by omega, hlt, by go_num, ?_, by trivial⟩, by simp [intOf]; omega⟩
      obtain ⟨j, rfl⟩ := hj.out
      exact Lib.hid ⟨j + 1, by rw [Nat.pow_succ]; omega⟩
    · have hlt' : ¬ 2 * (q : Int) < m := by omega
      have hlt2 : ¬ (q : Int) * 2 < m := by omega
      go_wp2
      go_ret
      refine ⟨?_, by trivial⟩
      obtain ⟨j, rfl⟩ := hj.out
      rw [split_uniq hq2 (by omega)]
      rfl
theorem topP_one (p : Pr) : topP [p] = leafP p := by unfold topP; rw [if_neg (by simp)]; exact root_one _
theorem topP_two {l : List Pr} (h : 2 ≤ l.length) : topP l = nodeD (topP (l.take (splitN l.length))) (topP (l.drop (splitN l.length))) := by
  have h1 := split_lt h
  have h2 := split_pos l.length
  unfold topP
  rw [if_neg (by omega), if_neg (by rw [List.length_take]; omega), if_neg (by rw [List.length_drop]; omega), root_two (by simpa using h), List.length_map, List.map_take, List.map_drop]
end Go.Proofs.YtcdocklbpfdmeaaDoor
