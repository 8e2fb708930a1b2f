import Derived.Test.YtpcfkjeikhehaaaDoorMMix

/- The reference's Mix. -/
set_option linter.unusedSimpArgs false
set_option linter.unusedVariables false
set_option maxRecDepth 20000
namespace Go.Proofs.YtpcfkjeikhehaaaDoor
open Go.RowKit
set_option maxHeartbeats 400000 in
theorem refmix_any (a b c d x y : UInt32) (w : World) :
    Calls Tryd.prog 95 #[.agg #[U a, U b, U c, U d], U x, U y] w (Post w (.agg ((mix4 a b c d x y).map U).toArray)) := by
  go_enter Tryd.func95, Tryd.ntmps95
  go_wp2
  go_region
  go_wp2_with (go_at_call 101; ((with_reducible (first | refine (turned16 _ _).mono ?_ | refine (turned12 _ _).mono ?_ | refine (turned8 _ _).mono ?_ | refine (turned7 _ _).mono ?_)); rintro e w' ⟨rfl, rfl⟩))
  refine bodyPost_ret (v := .agg ((mix4 a b c d x y).map U).toArray) (by simp [results, Tryd.results95, go_sem, mix4, UInt32.add_assoc]) rfl (post_mk rfl ?_)
  repeat (first | exact ex_refl _ | refine ex_drew ?_ | refine ex_alloc ?_ _ | refine ex_wx ?_ _)
end Go.Proofs.YtpcfkjeikhehaaaDoor
