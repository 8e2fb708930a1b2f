/- Extends. -/
import Derived.Test.YtbobamifpjlmiaaDoorGrow
set_option linter.unusedSimpArgs false
set_option linter.unusedVariables false
set_option maxRecDepth 20000
namespace Go.Proofs.YtbobamifpjlmiaaDoor
open Go.RowKit
set_option maxHeartbeats 1000000 in
theorem extends_any {w0 : World} (G : Glob w0) (m n : Int) (old now : Dg) (p : List Dg) (a : Option Addr) (c : Nat) : ∀ w, Ex w0 w → p.length ≤ c → c ≤ maxLen → SlD w a p →
    Calls Tryd.prog 61 #[I m, I n, .agg (rowB 32 (dF old)), .agg (rowB 32 (dF now)), .slice a p.length c] w (Post w (.bool (decide (RootsD m n old p = some (old, now))))) := by
  intro w k hc hcm hs
  replace G := G.ex k
  clear k
  have HC : Hid (∀ w', Ex w w' → Calls Tryd.prog 59 #[I m, I n, .agg (rowB 32 (dF old)), .slice a p.length c] w' (Post w' (rootsV (RootsD m n old p)))) := Lib.hid fun w' k => Roots_any G m n old p a c w' k hc hcm (hs.ex k)
  generalize RootsD m n old p = o at HC ⊢
  generalize p.length = L at HC hc ⊢
  clear hs
  cases o with
  | none =>
    have HC2 : Hid (∀ w', Ex w w' → Calls Tryd.prog 59 #[I m, I n, .agg (rowB 32 (dF old)), .slice a L c] w' (Post w' (.tuple #[.agg (rowB 32 fun _ => 0), .agg (rowB 32 fun _ => 0), .bool false]))) := HC
    have hd : decide ((none : Option (Dg × Dg)) = some (old, now)) = false := rfl
    rw [hd]
    clear HC
    go_enter Tryd.func61, Tryd.ntmps61
    go_wp2_with (go_at_call 59; (with_reducible refine (HC2.out _ (by (try show Ex _ _); repeat (first | (with_reducible exact ex_refl _) | (with_reducible assumption) | (with_reducible refine ex_drewL ?_) | (with_reducible refine ex_appR ?_ _) | (with_reducible refine ex_wx ?_ _) | (with_reducible refine ex_drew ?_) | (with_reducible refine ex_alloc ?_ _)))).mono ?_); rintro e w2 ⟨rfl, X, rfl⟩)
    go_ret
    exact post_mk rfl (by (try show Ex _ _); repeat (first | (with_reducible exact ex_refl _) | (with_reducible assumption) | (with_reducible refine ex_drewL ?_) | (with_reducible refine ex_appR ?_ _) | (with_reducible refine ex_wx ?_ _) | (with_reducible refine ex_drew ?_) | (with_reducible refine ex_alloc ?_ _)))
  | some x =>
    obtain ⟨x, y⟩ := x
    have HC2 : Hid (∀ w', Ex w w' → Calls Tryd.prog 59 #[I m, I n, .agg (rowB 32 (dF old)), .slice a L c] w' (Post w' (.tuple #[.agg (rowB 32 (dF x)), .agg (rowB 32 (dF y)), .bool true]))) := HC
    have hd : decide (some (x, y) = some (old, now)) = (decide (x = old) && decide (y = now)) := by
      rw [Bool.eq_iff_iff]; simp
    rw [hd]
    have he1 := eqD x old
    have he2 := eqD y now
    generalize decide (x = old) = b1 at he1 ⊢
    generalize decide (y = now) = b2 at he2 ⊢
    clear HC hd
    cases b1
    all_goals
      go_enter Tryd.func61, Tryd.ntmps61
      go_wp2_with (go_at_call 59; (with_reducible refine (HC2.out _ (by (try show Ex _ _); repeat (first | (with_reducible exact ex_refl _) | (with_reducible assumption) | (with_reducible refine ex_drewL ?_) | (with_reducible refine ex_appR ?_ _) | (with_reducible refine ex_wx ?_ _) | (with_reducible refine ex_drew ?_) | (with_reducible refine ex_alloc ?_ _)))).mono ?_); rintro e w2 ⟨rfl, X, rfl⟩)
      go_ret
      exact post_mk rfl (by (try show Ex _ _); repeat (first | (with_reducible exact ex_refl _) | (with_reducible assumption) | (with_reducible refine ex_drewL ?_) | (with_reducible refine ex_appR ?_ _) | (with_reducible refine ex_wx ?_ _) | (with_reducible refine ex_drew ?_) | (with_reducible refine ex_alloc ?_ _)))
end Go.Proofs.YtbobamifpjlmiaaDoor
