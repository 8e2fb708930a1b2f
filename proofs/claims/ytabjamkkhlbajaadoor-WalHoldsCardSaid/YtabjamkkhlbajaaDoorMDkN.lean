import Derived.Test.YtabjamkkhlbajaaDoorMBuildK

/- New disks. -/
set_option linter.unusedSimpArgs false
set_option linter.unusedVariables false
set_option maxRecDepth 20000
namespace Go.Proofs.YtabjamkkhlbajaaDoor
open Go.RowKit
theorem appBlk : AppT Tryd.prog 69 75 64 64 (.agg (rowB 64 fun _ => 0)) := ⟨Tryd.underlying69, by kernel_rfl, by simp [Value.cells], by decide⟩
@[go_sem] theorem make_blk (l c : Int) (w : World) : (Instr.makeSlice 69 (.int .i64 l) (.int .i64 c)).run Tryd.prog w = if 0 ≤ l ∧ l ≤ c ∧ ((64 : Nat) : Int) * c ≤ 281474976710656 ∧ c ≤ 9223372036854775807 then
    .ok (.slice (some ⟨w.heap.size, 0, none⟩) l.toNat c.toNat) (w.alloc (.cells (manyC (.agg (rowB 64 fun _ => 0)) (c.toNat * 64)) 75)) else makeRaw Tryd.prog 69 (.int .i64 l) (.int .i64 c) w := make_rule appBlk l c w
theorem own_zero (n : Nat) (h : n ≤ 2048) {w w' : World} {g : Nat} (hg : g = w.heap.size) (k : Ex (w.alloc (.cells (manyC (.agg (rowB 64 fun _ => 0)) (n * 64)) 75)) w') : w'.ownsRow 0 75 64 (.slice (some ⟨g, 0, none⟩) n n) n ((List.replicate n zeroB).flatMap KK) := by
  refine owns_ex (owns_new hg (Nat.zero_le _) (Nat.le_refl _) (by unfold maxLen; omega) (by rw [manyC_size]) ?_) k
  have hz : (Value.agg (rowB 64 fun _ => 0)).cells.toList = KK zeroB := by unfold KK; rw [zeroB_row]; rfl
  rw [← manyC_flat KK_len (by omega) hz n, List.take_of_length_le]
  rw [Array.length_toList, manyC_size]; exact Nat.le_refl _
set_option maxHeartbeats 1000000 in
theorem new_any (n : Nat) (h1 : 1 ≤ n) (h2 : n ≤ 2048) (w : World) : Calls Tryd.prog 32 #[I n] w fun e w' => ∃ L, e = .returned (.tuple #[PT L.p, I 0]) ∧ DkAt w' L (newD n) ∧ Ex w w' ∧ ∀ b, L.own b → w.heap.size ≤ b := by
  have e1 : (1 : Int) ≤ n := by omega
  have e2 : (n : Int) ≤ 2048 := by omega
  have e3 : 64 * (n : Int) ≤ 281474976710656 := by omega
  have e4 : (n : Int) ≤ 9223372036854775807 := by omega
  go_enter Tryd.func32, Tryd.ntmps32
  go_wp2
  go_ret2
  have k : Ex w ((w.alloc (.cells (manyC (.agg (rowB 64 fun _ => 0)) (n * 64)) 75)).alloc (.cells #[.slice (some ⟨w.heap.size, 0, none⟩) n n, .slice none 0 0, I (-1), I (-1), .bool false, I 0] 89)) := ex_alloc (ex_alloc (ex_refl _) _) _
  refine ⟨⟨w.heap.size + 1, w.heap.size, none⟩, rfl, ⟨.slice none 0 0, ?_, ?_, owns_nil _ _ _ _, rfl, (by simp), (fun e => by cases e), (fun e => by cases e), new_ok h1 h2⟩, k, ?_⟩
  · have := heap_alloc_new (w.alloc (.cells (manyC (.agg (rowB 64 fun _ => 0)) (n * 64)) 75)) (.cells #[.slice (some ⟨w.heap.size, 0, none⟩) n n, .slice none 0 0, I (-1), I (-1), .bool false, I 0] 89)
    rw [World.size_alloc] at this
    simp only [newD, List.length_replicate]
    exact this
  · simp only [newD, List.length_replicate]
    exact own_zero n h2 rfl (ex_alloc (ex_refl _) _)
  · rintro b (rfl | rfl | h)
    · simp
    · exact Nat.le_refl _
    · cases h
end Go.Proofs.YtabjamkkhlbajaaDoor
