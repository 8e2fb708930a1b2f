/- Includes. -/
import Derived.Test.YtbobamifpjlmiaaDoorClimb
set_option linter.unusedSimpArgs false
set_option linter.unusedVariables false
set_option maxRecDepth 20000
namespace Go.Proofs.YtbobamifpjlmiaaDoor
open Go.RowKit
theorem row_zero : rowB 32 (dF zeroD) = rowB 32 fun _ => 0 := rowB_congr fun i hi => dF_ofF _ i hi
set_option maxHeartbeats 1000000 in
theorem includes_any {w0 : World} (G : Glob w0) (r : Dg) (n i : Int) (leaf : Dg) (p : List Dg) (a : Option Addr) (c : Nat) : ∀ w, Ex w0 w → p.length ≤ c → c ≤ maxLen → SlD w a p →
    Calls Tryd.prog 32 #[.agg (rowB 32 (dF r)), I n, I i, .agg (rowB 32 (dF leaf)), .slice a p.length c] w (Post w (.bool (decide (ClimbD n i leaf p = some r)))) := by
  intro w k hc hcm hs
  replace G := G.ex k
  clear k
  have HC : Hid (∀ w', Ex w w' → Calls Tryd.prog 30 #[I n, I i, .agg (rowB 32 (dF leaf)), .slice a p.length c] w' (Post w' (climbV (ClimbD n i leaf p)))) := Lib.hid fun w' k => climb_any G n i leaf p a c w' k hc hcm (hs.ex k)
  generalize ClimbD n i leaf p = o at HC ⊢
  generalize p.length = L at HC hc ⊢
  clear hs
  cases o with
  | none =>
    have HC2 : Hid (∀ w', Ex w w' → Calls Tryd.prog 30 #[I n, I i, .agg (rowB 32 (dF leaf)), .slice a L c] w' (Post w' (.tuple #[.agg (rowB 32 fun _ => 0), .bool false]))) := HC
    have hd : decide ((none : Option Dg) = some r) = false := rfl
    rw [hd]
    go_enter Tryd.func32, Tryd.ntmps32
    go_wp2_with (go_at_call 30; (with_reducible refine (HC2.out _ (by (try show Ex _ _); repeat (first | (with_reducible exact ex_refl _) | (with_reducible assumption) | (with_reducible refine ex_drewL ?_) | (with_reducible refine ex_appR ?_ _) | (with_reducible refine ex_wx ?_ _) | (with_reducible refine ex_drew ?_) | (with_reducible refine ex_alloc ?_ _)))).mono ?_); rintro e w2 ⟨rfl, X, rfl⟩)
    go_ret
    exact post_mk rfl (by (try show Ex _ _); repeat (first | (with_reducible exact ex_refl _) | (with_reducible assumption) | (with_reducible refine ex_drewL ?_) | (with_reducible refine ex_appR ?_ _) | (with_reducible refine ex_wx ?_ _) | (with_reducible refine ex_drew ?_) | (with_reducible refine ex_alloc ?_ _)))
  | some x =>
    have HC2 : Hid (∀ w', Ex w w' → Calls Tryd.prog 30 #[I n, I i, .agg (rowB 32 (dF leaf)), .slice a L c] w' (Post w' (.tuple #[.agg (rowB 32 (dF x)), .bool true]))) := HC
    have hd : decide (some x = some r) = decide (x = r) := by simp
    rw [hd]
    have he := eqD x r
    generalize decide (x = r) = b at he ⊢
    go_enter Tryd.func32, Tryd.ntmps32
    go_wp2_with (go_at_call 30; (with_reducible refine (HC2.out _ (by (try show Ex _ _); repeat (first | (with_reducible exact ex_refl _) | (with_reducible assumption) | (with_reducible refine ex_drewL ?_) | (with_reducible refine ex_appR ?_ _) | (with_reducible refine ex_wx ?_ _) | (with_reducible refine ex_drew ?_) | (with_reducible refine ex_alloc ?_ _)))).mono ?_); rintro e w2 ⟨rfl, X, rfl⟩)
    go_ret
    exact post_mk rfl (by (try show Ex _ _); repeat (first | (with_reducible exact ex_refl _) | (with_reducible assumption) | (with_reducible refine ex_drewL ?_) | (with_reducible refine ex_appR ?_ _) | (with_reducible refine ex_wx ?_ _) | (with_reducible refine ex_drew ?_) | (with_reducible refine ex_alloc ?_ _)))
end Go.Proofs.YtbobamifpjlmiaaDoor
