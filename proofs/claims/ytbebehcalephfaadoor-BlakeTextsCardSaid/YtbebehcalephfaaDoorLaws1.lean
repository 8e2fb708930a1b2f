/- The laws' walks: BlakeBlocks, BlakeBack. -/
import Derived.Test.YtbebehcalephfaaDoorWakes
import Derived.Test.YtbebehcalephfaaDoorRef
import Derived.Test.YtbebehcalephfaaDoorMixU
import Derived.Test.YtbebehcalephfaaDoorSumR
import Derived.Test.YtbebehcalephfaaDoorTextR
set_option linter.unusedSimpArgs false
set_option linter.unusedVariables false
set_option maxRecDepth 20000
namespace Go.Proofs.YtbebehcalephfaaDoor
open Go.RowKit
@[go_sem] theorem eqF_sameB (f : Nat → UInt8) (n : Nat) : eqF f f n = true := eqF_same f n
@[go_sem] theorem eqF_sameU (f : Nat → UInt32) (n : Nat) : eqF f f n = true := eqF_same f n
@[go_sem high] theorem bools_0 (w : World) : (Instr.index 27 (.agg #[.bool false, .bool true]) (.int .i64 0)).run Tryd.prog w = .ok (.bool false) w := by kernel_rfl
@[go_sem high] theorem bools_1 (w : World) : (Instr.index 27 (.agg #[.bool false, .bool true]) (.int .i64 1)).run Tryd.prog w = .ok (.bool true) w := by kernel_rfl
set_option maxHeartbeats 2000000 in
theorem blocks_any (H : Nat → UInt32) (b : Nat → UInt8) (t : UInt64) (w : World) (G : Glob w) :
    Calls Tryd.prog 3 #[.agg (rowU 8 H), .agg (rowB 64 b), L t] w (Post w (.bool true)) := by
  go_enter Tryd.func3, Tryd.ntmps3
  go_wp2_with (go_at_call 10; refine (wakes_any _ (G.ex (by repeat (first | exact ex_refl _ | refine ex_appR ?_ _ | refine ex_wx ?_ _ | refine ex_drew ?_ | refine ex_alloc ?_ _)))).mono ?_; rintro e w' ⟨rfl, X, rfl⟩)
  go_loopw [12] (fun i wr => ∃ k : Nat, k ≤ 2 ∧ i = I k ∧ Ex ((w.alloc (.cells (rowU 8 H) 23)).alloc (.cells (rowB 64 b) 24)) wr) (fun i _ => 2 - (intOf i).toNat)
  case atStart => exact ⟨0, by omega, rfl, (by repeat (first | exact ex_refl _ | refine ex_appR ?_ _ | refine ex_wx ?_ _ | refine ex_drew ?_ | refine ex_alloc ?_ _))⟩
  case round =>
    obtain ⟨k, hk, rfl, X1, rfl⟩ := hrel
    by_cases hlt : k < 2
    · have hk2 : k = 0 ∨ k = 1 := by omega
      rcases hk2 with rfl | rfl
      all_goals
        simp only [Int.cast_ofNat_Int]
        go_wp2
        refine wp_region_mix [(0, true), (1, true), (2, true), (3, true), (5, true), (6, true), (7, true), (8, true), (4, false), (9, false), (10, true)] 11 (by kernel_rfl) (by kernel_rfl) (fun _ _ d _ _ h => by cases d <;> exact h) ?_
        simp only [List.map_cons, List.map_nil, nth, List.drop_succ_cons, List.drop_zero]
        repeat (first | (refine wpMix_look ?_; go_big_quiet_step (fail); refine wpQuiet_nil ?_) | (refine wpMix_eff rfl (fun X1 => ?_); go_wp2_with (first | (go_at_call 11; refine (block_glob G (by repeat (first | exact ex_refl _ | refine ex_appR ?_ _ | refine ex_wx ?_ _ | refine ex_drew ?_ | refine ex_alloc ?_ _)) _ _ _ _).mono ?_; rintro e w' ⟨rfl, X, rfl⟩) | (go_at_call 12; refine (refblock_any _ _ _ _ _).mono ?_; rintro e w' ⟨rfl, X, rfl⟩)); refine mixQ_mk (by first | exact ex_refl _ | exact ⟨_, rfl⟩ | exact ex_app _ _ _ | (simp only [wx_wx, wx_drew]; first | exact ex_refl _ | exact ex_app _ _ _ | exact ⟨_, rfl⟩) | (repeat (first | exact ex_refl _ | refine ex_drew ?_ | refine ex_alloc ?_ _ | refine ex_wx ?_ _))) ?_))
        refine wpMix_nil (fun X2 => ?_)
        go_wp2
      · exact ⟨⟨1, by omega, rfl, (by repeat (first | exact ex_refl _ | refine ex_appR ?_ _ | refine ex_wx ?_ _ | refine ex_drew ?_ | refine ex_alloc ?_ _))⟩, by simp [intOf]⟩
      · exact ⟨⟨2, by omega, rfl, (by repeat (first | exact ex_refl _ | refine ex_appR ?_ _ | refine ex_wx ?_ _ | refine ex_drew ?_ | refine ex_alloc ?_ _))⟩, by simp [intOf]⟩
    · obtain rfl : k = 2 := by omega
      simp only [Int.cast_ofNat_Int]
      clear hlt hk
      go_wp2
      go_ret
      exact post_mk rfl (by repeat (first | exact ex_refl _ | refine ex_appR ?_ _ | refine ex_wx ?_ _ | refine ex_drew ?_ | refine ex_alloc ?_ _))
end Go.Proofs.YtbebehcalephfaaDoor
