/- Unmix, and the reference's Mix. -/
import Derived.Test.YtbebehcalephfaaDoorMix
set_option linter.unusedSimpArgs false
set_option linter.unusedVariables false
set_option maxRecDepth 20000
namespace Go.Proofs.YtbebehcalephfaaDoor
open Go.RowKit

/-- The four numbers ahead of a mixing. -/
def unmix4 (a2 b2 c2 d2 x y : UInt32) : List UInt32 :=
  let b1 := rr b2 25 ^^^ c2; let c1 := c2 - d2; let d1 := rr d2 24 ^^^ a2; let a1 := a2 - (b1 + y)
  let b := rr b1 20 ^^^ c1; let c := c1 - d1; let d := rr d1 16 ^^^ a1; let a := a1 - (b + x)
  [a, b, c, d]
set_option maxHeartbeats 4000000 in
theorem unmix_any (a b c d x y : UInt32) (w : World) :
    Calls Tryd.prog 24 #[.agg #[U a, U b, U c, U d], U x, U y] w (Post w (.agg ((unmix4 a b c d x y).map U).toArray)) := by
  go_enter Tryd.func24, Tryd.ntmps24
  go_wp2_with (first | go_in)
  refine wp_region_mix [(0, true), (1, true), (2, true), (3, true), (5, true), (6, true), (4, false), (7, true), (8, true)] 9 (by kernel_rfl) (by kernel_rfl) (fun _ _ d _ _ h => by cases d <;> exact h) ?_
  simp only [List.map_cons, List.map_nil, nth, List.drop_succ_cons, List.drop_zero]
  repeat (first | (refine wpMix_look ?_; go_big_quiet_step (fail); refine wpQuiet_nil ?_) | (refine wpMix_eff rfl (fun X1 => ?_); go_wp2_with (go_at_call 34; ((with_reducible (first | refine (left7 _ _).mono ?_ | refine (left8 _ _).mono ?_ | refine (left12 _ _).mono ?_ | refine (left16 _ _).mono ?_)); rintro e w' ⟨rfl, rfl⟩)); refine mixQ_mk (by first | exact ex_refl _ | exact ⟨_, rfl⟩ | exact ex_app _ _ _ | (simp only [wx_wx, wx_drew]; first | exact ex_refl _ | exact ex_app _ _ _ | exact ⟨_, rfl⟩) | (repeat (first | exact ex_refl _ | refine ex_drew ?_ | refine ex_alloc ?_ _ | refine ex_wx ?_ _))) ?_))
  refine wpMix_nil (fun X2 => ?_)
  go_wp2
  refine wp_region_mix [(0, true), (1, true), (2, true), (3, true), (5, true), (6, true), (4, false), (7, true), (8, true)] 9 (by kernel_rfl) (by kernel_rfl) (fun _ _ d _ _ h => by cases d <;> exact h) ?_
  simp only [List.map_cons, List.map_nil, nth, List.drop_succ_cons, List.drop_zero]
  repeat (first | (refine wpMix_look ?_; go_big_quiet_step (fail); refine wpQuiet_nil ?_) | (refine wpMix_eff rfl (fun X1 => ?_); go_wp2_with (go_at_call 34; ((with_reducible (first | refine (left7 _ _).mono ?_ | refine (left8 _ _).mono ?_ | refine (left12 _ _).mono ?_ | refine (left16 _ _).mono ?_)); rintro e w' ⟨rfl, rfl⟩)); refine mixQ_mk (by first | exact ex_refl _ | exact ⟨_, rfl⟩ | exact ex_app _ _ _ | (simp only [wx_wx, wx_drew]; first | exact ex_refl _ | exact ex_app _ _ _ | exact ⟨_, rfl⟩) | (repeat (first | exact ex_refl _ | refine ex_drew ?_ | refine ex_alloc ?_ _ | refine ex_wx ?_ _))) ?_))
  refine wpMix_nil (fun X2 => ?_)
  go_wp2
  go_end0
  go_wp2_with (first | go_in)
  refine wp_region_mix [(0, true), (1, true), (2, true), (3, true), (5, true), (6, true), (4, false), (7, true), (8, true)] 9 (by kernel_rfl) (by kernel_rfl) (fun _ _ d _ _ h => by cases d <;> exact h) ?_
  simp only [List.map_cons, List.map_nil, nth, List.drop_succ_cons, List.drop_zero]
  repeat (first | (refine wpMix_look ?_; go_big_quiet_step (fail); refine wpQuiet_nil ?_) | (refine wpMix_eff rfl (fun X1 => ?_); go_wp2_with (go_at_call 34; ((with_reducible (first | refine (left7 _ _).mono ?_ | refine (left8 _ _).mono ?_ | refine (left12 _ _).mono ?_ | refine (left16 _ _).mono ?_)); rintro e w' ⟨rfl, rfl⟩)); refine mixQ_mk (by first | exact ex_refl _ | exact ⟨_, rfl⟩ | exact ex_app _ _ _ | (simp only [wx_wx, wx_drew]; first | exact ex_refl _ | exact ex_app _ _ _ | exact ⟨_, rfl⟩) | (repeat (first | exact ex_refl _ | refine ex_drew ?_ | refine ex_alloc ?_ _ | refine ex_wx ?_ _))) ?_))
  refine wpMix_nil (fun X2 => ?_)
  go_wp2
  refine wp_region_mix [(0, true), (1, true), (2, true), (3, true), (5, true), (6, true), (4, false), (7, true), (8, true)] 9 (by kernel_rfl) (by kernel_rfl) (fun _ _ d _ _ h => by cases d <;> exact h) ?_
  simp only [List.map_cons, List.map_nil, nth, List.drop_succ_cons, List.drop_zero]
  repeat (first | (refine wpMix_look ?_; go_big_quiet_step (fail); refine wpQuiet_nil ?_) | (refine wpMix_eff rfl (fun X1 => ?_); go_wp2_with (go_at_call 34; ((with_reducible (first | refine (left7 _ _).mono ?_ | refine (left8 _ _).mono ?_ | refine (left12 _ _).mono ?_ | refine (left16 _ _).mono ?_)); rintro e w' ⟨rfl, rfl⟩)); refine mixQ_mk (by first | exact ex_refl _ | exact ⟨_, rfl⟩ | exact ex_app _ _ _ | (simp only [wx_wx, wx_drew]; first | exact ex_refl _ | exact ex_app _ _ _ | exact ⟨_, rfl⟩) | (repeat (first | exact ex_refl _ | refine ex_drew ?_ | refine ex_alloc ?_ _ | refine ex_wx ?_ _))) ?_))
  refine wpMix_nil (fun X2 => ?_)
  go_wp2
  go_end0
  go_wp2
  refine bodyPost_ret (v := .agg ((unmix4 a b c d x y).map U).toArray) (by simp [results, Tryd.results24, go_sem, unmix4]) rfl (post_mk rfl ?_)
  repeat (first | exact ex_refl _ | refine ex_drew ?_ | refine ex_alloc ?_ _ | refine ex_wx ?_ _)

set_option maxHeartbeats 400000 in
theorem refmix_any (a b c d x y : UInt32) (w : World) :
    Calls Tryd.prog 14 #[.agg #[U a, U b, U c, U d], U x, U y] w (Post w (.agg ((mix4 a b c d x y).map U).toArray)) := by
  go_enter Tryd.func14, Tryd.ntmps14
  go_wp2
  go_region
  go_wp2_with (go_at_call 35; ((with_reducible (first | refine (turned16 _ _).mono ?_ | refine (turned12 _ _).mono ?_ | refine (turned8 _ _).mono ?_ | refine (turned7 _ _).mono ?_)); rintro e w' ⟨rfl, rfl⟩))
  refine bodyPost_ret (v := .agg ((mix4 a b c d x y).map U).toArray) (by simp [results, Tryd.results14, go_sem, mix4, UInt32.add_assoc]) rfl (post_mk rfl ?_)
  repeat (first | exact ex_refl _ | refine ex_drew ?_ | refine ex_alloc ?_ _ | refine ex_wx ?_ _)
end Go.Proofs.YtbebehcalephfaaDoor
