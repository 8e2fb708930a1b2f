import Derived.Test.YtdohohafdplkiaaMDkUh

/- All bools yes: of none, too. -/
set_option linter.unusedSimpArgs false
set_option linter.unusedVariables false
set_option maxRecDepth 20000
namespace Go.Proofs.Ytdohohafdplkiaa
open Go.RowKit
set_option maxHeartbeats 1000000 in
theorem repeat0_any (w : World) (g : Nat) (hg : w.heap[g]? = some (.cells #[.bool true] 4 (0, 0))) :
    Calls Try.prog 52 #[.slice (some ⟨g, 0, none⟩) 1 1, .int .i64 0] w fun e w' => e = .returned (.slice (some ⟨w.heap.size, 0, none⟩) 0 0) ∧ Ex w w' ∧ w.heap.size < w'.heap.size := by
  have HM : Hid (∀ W, Calls Try.prog 59 #[.int .u64 1, .int .u64 0] W fun e w' => e = .returned (.tuple #[.int .u64 0, .int .u64 0]) ∧ w' = W) := Lib.hid fun W => mul_any 1 0 (by omega) (by omega) W
  have hgz := (Array.getElem?_eq_some_iff.1 hg).1
  have hc : w.cell? ⟨g, 0, none⟩ = some (.bool true) := cell_of_row w g 0 _ _ _ hg
  have hcn : cellsN w g 0 0 = some #[] := cellsN_some.2 ⟨rfl, fun j hj => by omega⟩
  have ho : oneCells #[] = true := by simp [oneCells]
  clear hg
  go_enter Try.func52, Try.ntmps52
  go_wp2_with (go_at_call 59; (with_reducible refine (HM.out _).mono ?_); rintro e w3 ⟨rfl, hw3⟩; subst w3)
  go_loopw [8] (fun i W => i = I 0 ∧ Hid (Ex w W ∧ w.heap.size < W.heap.size)) (fun i _ => 0)
  case atStart => exact ⟨rfl, Lib.hid ⟨(by (try show Ex _ _); repeat (first | (with_reducible exact ex_refl _) | (with_reducible assumption) | (with_reducible refine ex_drewL ?_) | (with_reducible refine ex_appR ?_ _) | (with_reducible refine ex_wx ?_ _) | (with_reducible refine ex_drew ?_) | (with_reducible refine ex_alloc ?_ _))), by simp [go_sem]⟩⟩
  case round =>
    obtain ⟨rfl, hX⟩ := hrel
    go_wp2
    go_ret
    exact ⟨rfl, hX.out.1, hX.out.2⟩
theorem yes_all (n : Nat) (h0 : n ≤ 100000) (w : World) :
    Calls Try.prog 31 #[I n] w fun e w' => ∃ v, e = .returned v ∧ SlV1 KBo 1 w' v (List.replicate n true) ∧ (∀ g, v.ownBlock = some g → w.heap.size ≤ g ∧ g < w'.heap.size) ∧ Ex w w' := by
  rcases Nat.eq_zero_or_pos n with rfl | hn1
  · have HR := Lib.hid (repeat0_any (w.alloc (.cells #[.bool true] 4)) w.heap.size (heap_alloc_new w _))
    rw [World.size_alloc] at HR
    have H : Calls Try.prog 31 #[.int .i64 0] w fun e w' => e = .returned (.slice (some ⟨w.heap.size + 1, 0, none⟩) 0 0) ∧ Ex w w' ∧ w.heap.size + 1 < w'.heap.size := by
      go_enter Try.func31, Try.ntmps31
      go_wp2_with (go_at_call 52; (with_reducible refine HR.out.mono ?_); rintro e w2 ⟨rfl, k2, z2⟩; replace z2 := Lib.hid z2)
      go_ret
      exact ⟨rfl, ex_trans (ex_alloc (ex_refl _) _) k2, z2.out⟩
    refine H.mono fun e w' hh => ?_
    obtain ⟨rfl, k, z⟩ := hh
    refine ⟨_, rfl, ⟨some ⟨w.heap.size + 1, 0, none⟩, 0, rfl, Nat.le_refl _, by decide, (fun e => by cases e), SlR.nil _ _ _ _⟩, fun g hg => ?_, k⟩
    obtain rfl : w.heap.size + 1 = g := Option.some.inj hg
    exact ⟨by omega, z⟩
  · refine (yesB_any n h0 hn1 w).mono fun e w' hh => ?_
    obtain ⟨rfl, hb, k⟩ := hh
    have hz := (Array.getElem?_eq_some_iff.1 hb).1
    refine ⟨_, rfl, ⟨_, n, by simp, by simp, by unfold maxLen; omega, (fun e => by cases e), ⟨Or.inr ⟨_, 0, rfl, hz, fun i b hi => ?_⟩⟩⟩, fun g hg => ?_, k⟩
    · have hin := (List.getElem?_eq_some_iff.1 hi).1
      rw [List.length_replicate] at hin
      rw [List.getElem?_replicate, if_pos hin] at hi
      obtain rfl := Option.some.inj hi
      refine cellsN_some.2 ⟨rfl, fun j hj => ?_⟩
      obtain rfl : j = 0 := by omega
      rw [Nat.zero_add, Nat.mul_one]
      show w'.cell? ⟨w.heap.size + 1, i, none⟩ = _
      rw [cell_of_row w' _ i _ _ _ hb, repB_get, if_pos hin, decide_eq_true hin]; rfl
    · obtain rfl : w.heap.size + 1 = g := Option.some.inj hg
      exact ⟨by omega, hz⟩
end Go.Proofs.Ytdohohafdplkiaa
