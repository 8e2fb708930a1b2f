import Derived.Test.YtpcfkjeikhehaaaDoorMFrW

/- Clones of bytes, in memory of their own. -/
set_option linter.unusedSimpArgs false
set_option linter.unusedVariables false
set_option maxRecDepth 20000
namespace Go.Proofs.YtpcfkjeikhehaaaDoor
open Go.RowKit
theorem ownl_empty {w w' : World} {Z g : Nat} (k : Ex (w.alloc (.cells #[] 5)) w') (hg : g = w.heap.size) (hZ : Z ≤ w.heap.size) : OwnL w' Z (.slice (some ⟨g, 0, none⟩) 0 0) [] := by
  subst hg
  exact owns_ex (owns_new (n := 0) (cap := 0) rfl hZ (by omega) (by decide) (by simp) (by simp [Lib.byteCells])) k
theorem cloneB_any (l : List UInt8) (v : Value) (w : World) (hs : SlT w v l) (hl : l.length ≤ 1000000) : Calls Tryd.prog 15 #[v] w (PostOw w l) := by
  obtain ⟨a, c, rfl, h1, h2, h3, h4⟩ := id hs.out
  have HS := Lib.hid hs
  clear hs h4
  cases a with
  | none =>
    obtain rfl := h3 rfl
    obtain rfl : l = [] := List.eq_nil_of_length_eq_zero (by omega)
    rw [List.length_nil]
    go_enter Tryd.func15, Tryd.ntmps15
    go_wp2
    go_ret
    exact ⟨_, rfl, ownl_nil _ _, (by (try show Ex _ _); repeat (first | (with_reducible exact ex_refl _) | (with_reducible assumption) | (with_reducible refine ex_drewL ?_) | (with_reducible refine ex_appR ?_ _) | (with_reducible refine ex_wx ?_ _) | (with_reducible refine ex_drew ?_) | (with_reducible refine ex_alloc ?_ _)))⟩
  | some ad =>
    clear h3
    go_enter Tryd.func15, Tryd.ntmps15
    go_wp2_with (at_builtin; refine wpAppT (Z := w.heap.size) _ _ rfl rfl (ownl_empty (by (try show Ex _ _); repeat (first | (with_reducible exact ex_refl _) | (with_reducible assumption) | (with_reducible refine ex_drewL ?_) | (with_reducible refine ex_appR ?_ _) | (with_reducible refine ex_wx ?_ _) | (with_reducible refine ex_drew ?_) | (with_reducible refine ex_alloc ?_ _))) (by simp [go_sem]) (by simp [go_sem])) rfl rfl (HS.out.ex (by (try show Ex _ _); repeat (first | (with_reducible exact ex_refl _) | (with_reducible assumption) | (with_reducible refine ex_drewL ?_) | (with_reducible refine ex_appR ?_ _) | (with_reducible refine ex_wx ?_ _) | (with_reducible refine ex_drew ?_) | (with_reducible refine ex_alloc ?_ _)))) (by simp; omega) (by simp [go_sem]) (fun v1 w1 hown hA => ?_))
    go_ret
    refine ⟨v1, rfl, by simpa using hown, hA.ex (A := w) (by (try show Ex _ _); repeat (first | (with_reducible exact ex_refl _) | (with_reducible assumption) | (with_reducible refine ex_drewL ?_) | (with_reducible refine ex_appR ?_ _) | (with_reducible refine ex_wx ?_ _) | (with_reducible refine ex_drew ?_) | (with_reducible refine ex_alloc ?_ _))) (ownl_empty (by (try show Ex _ _); repeat (first | (with_reducible exact ex_refl _) | (with_reducible assumption) | (with_reducible refine ex_drewL ?_) | (with_reducible refine ex_appR ?_ _) | (with_reducible refine ex_wx ?_ _) | (with_reducible refine ex_drew ?_) | (with_reducible refine ex_alloc ?_ _))) (by simp [go_sem]) (by simp [go_sem]))⟩
theorem cloneS_any (l : List UInt8) (v : Value) (w : World) (hs : SlT w v l) (hl : l.length ≤ 1000000) : Calls Tryd.prog 24 #[v] w (PostOw w l) := by
  obtain ⟨a, c, rfl, h1, h2, h3, h4⟩ := id hs.out
  have HS := Lib.hid hs
  clear hs h4
  cases a with
  | none =>
    obtain rfl := h3 rfl
    obtain rfl : l = [] := List.eq_nil_of_length_eq_zero (by omega)
    rw [List.length_nil]
    go_enter Tryd.func24, Tryd.ntmps24
    go_wp2
    go_ret
    exact ⟨_, rfl, ownl_nil _ _, (by (try show Ex _ _); repeat (first | (with_reducible exact ex_refl _) | (with_reducible assumption) | (with_reducible refine ex_drewL ?_) | (with_reducible refine ex_appR ?_ _) | (with_reducible refine ex_wx ?_ _) | (with_reducible refine ex_drew ?_) | (with_reducible refine ex_alloc ?_ _)))⟩
  | some ad =>
    clear h3
    go_enter Tryd.func24, Tryd.ntmps24
    go_wp2_with (at_builtin; refine wpAppT (Z := w.heap.size) _ _ rfl rfl (ownl_empty (by (try show Ex _ _); repeat (first | (with_reducible exact ex_refl _) | (with_reducible assumption) | (with_reducible refine ex_drewL ?_) | (with_reducible refine ex_appR ?_ _) | (with_reducible refine ex_wx ?_ _) | (with_reducible refine ex_drew ?_) | (with_reducible refine ex_alloc ?_ _))) (by simp [go_sem]) (by simp [go_sem])) rfl rfl (HS.out.ex (by (try show Ex _ _); repeat (first | (with_reducible exact ex_refl _) | (with_reducible assumption) | (with_reducible refine ex_drewL ?_) | (with_reducible refine ex_appR ?_ _) | (with_reducible refine ex_wx ?_ _) | (with_reducible refine ex_drew ?_) | (with_reducible refine ex_alloc ?_ _)))) (by simp; omega) (by simp [go_sem]) (fun v1 w1 hown hA => ?_))
    go_ret
    refine ⟨v1, rfl, by simpa using hown, hA.ex (A := w) (by (try show Ex _ _); repeat (first | (with_reducible exact ex_refl _) | (with_reducible assumption) | (with_reducible refine ex_drewL ?_) | (with_reducible refine ex_appR ?_ _) | (with_reducible refine ex_wx ?_ _) | (with_reducible refine ex_drew ?_) | (with_reducible refine ex_alloc ?_ _))) (ownl_empty (by (try show Ex _ _); repeat (first | (with_reducible exact ex_refl _) | (with_reducible assumption) | (with_reducible refine ex_drewL ?_) | (with_reducible refine ex_appR ?_ _) | (with_reducible refine ex_wx ?_ _) | (with_reducible refine ex_drew ?_) | (with_reducible refine ex_alloc ?_ _))) (by simp [go_sem]) (by simp [go_sem]))⟩
end Go.Proofs.YtpcfkjeikhehaaaDoor
