/- Text of the document. -/
import Derived.Test.YtbebehcalephfaaDoorText
import Derived.Test.YtbebehcalephfaaDoorClone
set_option linter.unusedSimpArgs false
set_option linter.unusedVariables false
set_option maxRecDepth 20000
namespace Go.Proofs.YtbebehcalephfaaDoor
open Go.RowKit
@[local go_sem] theorem bn_tmod16 (x : UInt8) : (bn x).tmod 16 = ((x.toNat % 16 : Nat) : Int) := by
  unfold bn; rw [Int.tmod_eq_emod_of_nonneg (by omega)]; omega
@[local go_sem] theorem bn_tdiv16 (x : UInt8) : (bn x).tdiv 16 = ((x.toNat / 16 : Nat) : Int) := by
  unfold bn; rw [Int.tdiv_eq_ediv_of_nonneg (by omega)]; omega
set_option maxHeartbeats 2000000 in
theorem reftext_any (f : Nat → UInt8) (w : World) :
    Calls Tryd.prog 26 #[.agg (rowB 32 f)] w (Post w (.string ⟨(textK f 32).toArray⟩)) := by
  go_enter Tryd.func26, Tryd.ntmps26
  go_wp2
  go_loopw [3, 8] (fun v i wr => ∃ k : Nat, k ≤ 32 ∧ i = I k ∧ wr.ownsRow w.heap.size 5 1 v (2 * k) (Lib.byteCells (textK f k)) ∧ Below w.heap.size w wr) (fun _ i _ => 32 - (intOf i).toNat)
  case atStart =>
    refine ⟨0, by omega, rfl, owns_new (by simp [go_sem]) (by simp [go_sem]) (by omega) (by unfold maxLen; omega) (by simp) rfl, ex_below (ex_alloc (ex_alloc (ex_refl _) _) _)⟩
  case round =>
    obtain ⟨k, hk, rfl, hown, hbe⟩ := hrel
    have hl := textK_len f k
    by_cases hlt : k < 32
    · have hx := bn_lt (f k)
      have e2 : (((f k).toNat % 16 : Nat) : Int) < 16 := by omega
      have e3 : (((f k).toNat / 16 : Nat) : Int) < 16 := by unfold bn at hx; omega
      have HB := Lib.hid hl
      clear hl
      go_wp2
      refine wp_region_mix [(0, true), (1, true), (2, true), (3, true), (4, true), (5, true), (6, true), (7, false)] 8 (by kernel_rfl) (by kernel_rfl) (fun _ _ d _ _ h => by cases d <;> exact h) ?_
      simp only [List.map_cons, List.map_nil, nth, List.drop_succ_cons, List.drop_zero]
      repeat (first | (refine wpMix_look ?_; go_big_quiet_step (fail); refine wpQuiet_nil ?_) | (refine wpMix_eff rfl (fun X1 => ?_); go_wp2_with (fail); refine mixQ_mk (by first | exact ex_refl _ | exact ⟨_, rfl⟩ | exact ex_app _ _ _ | (simp only [wx_wx, wx_drew]; first | exact ex_refl _ | exact ex_app _ _ _ | exact ⟨_, rfl⟩) | (repeat (first | exact ex_refl _ | refine ex_drew ?_ | refine ex_alloc ?_ _ | refine ex_wx ?_ _))) ?_))
      refine wpMix_nil (fun X2 => ?_)
      go_wp2_with (at_builtin; refine wpApp appu8 _ _ rfl rfl (owns_ex hown (by repeat (first | exact ex_refl _ | refine ex_appR ?_ _ | refine ex_wx ?_ _ | refine ex_drew ?_ | refine ex_alloc ?_ _))) rfl _ _ _ (Lib.byteCells [dig ((f k).toNat / 16), dig ((f k).toNat % 16)]) rfl rfl (news_alloc (w := wx wr X1) (by simp [go_sem]) (by repeat (first | exact ex_refl _ | refine ex_appR ?_ _ | refine ex_wx ?_ _ | refine ex_drew ?_ | refine ex_alloc ?_ _))) ?_ ?_ ?_ ?_ ?_)
      · intro u hu; simp [Lib.byteCells] at hu; rcases hu with rfl | rfl <;> rfl
      · unfold maxLen; omega
      · omega
      · exact Nat.le_trans hbe.size (ex_size (by repeat (first | exact ex_refl _ | refine ex_appR ?_ _ | refine ex_wx ?_ _ | refine ex_drew ?_ | refine ex_alloc ?_ _)))
      · intro v' w1 hown1 hbe1
        go_wp2
        refine ⟨⟨k + 1, by omega, by go_num, ?_, ?_⟩, by simp [intOf]; omega⟩
        · have e : Lib.byteCells (textK f (k + 1)) = Lib.byteCells (textK f k) ++ Lib.byteCells [dig ((f k).toNat / 16), dig ((f k).toNat % 16)] := by simp [textK, Lib.byteCells]
          rw [e, show 2 * (k + 1) = 2 * k + 2 by omega]; exact hown1
        · exact (hbe.trans ((ex_below (by repeat (first | exact ex_refl _ | refine ex_appR ?_ _ | refine ex_wx ?_ _ | refine ex_drew ?_ | refine ex_alloc ?_ _))).mono hbe.size)).trans hbe1
    · obtain rfl : k = 32 := by omega
      clear hlt hk
      have hcv := conv_owns Tryd.underlying43 Tryd.underlying5 Tryd.underlying9 hown
      go_wp2
      go_ret
      exact post_mk rfl (ex_of_below hbe)
end Go.Proofs.YtbebehcalephfaaDoor
