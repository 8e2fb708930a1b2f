/- short; Clone of digests. -/
import Derived.Test.YtbobamifpjlmiaaDoorWakeH
import Derived.Test.YtbobamifpjlmiaaDoorPathR
set_option linter.unusedSimpArgs false
set_option linter.unusedVariables false
set_option maxRecDepth 20000
namespace Go.Proofs.YtbobamifpjlmiaaDoor
open Go.RowKit
theorem wpAppS {ops : Array Oper} {rest : List Oper} {o : Oper} {a : Act} {w : World} {Q : Exit → Act → World → Prop} (s x : Operand) (hgd : o.guard = none)
    (ho : o.op = .call { callee := .builtin .append, args := #[s, x], argTypes := #[22, 22] })
    {Z : Nat} {v : Value} {l r : List Dg} {ad : Addr} {m c : Nat} (hown : OwnD w Z v l) (hs : a.eval s = v) (hx : a.eval x = .slice (some ad) m c) (hm : m = r.length) (hr : SlD w (some ad) r) (hlen : l.length + r.length ≤ 1000000) (hZ : Z ≤ w.heap.size)
    (h : ∀ v' w', OwnD w' Z v' (l ++ r) → Below Z w w' → wpList Tryd.prog ops Q rest (a.put o.dst v') w') : wpList Tryd.prog ops Q (o :: rest) a w := by
  rcases hr.out with rfl | ⟨g, off, hg, _, _⟩
  · subst hm
    refine wpApp appId s x hgd ho hown hs ad 0 c [] hx rfl (fun j u hj => by simp at hj) (fun u hu => by cases hu) (by unfold maxLen; omega) (by omega) hZ fun v' w' k1 k2 => ?_
    rw [List.append_nil] at k1
    exact h v' w' (by rw [List.append_nil]; exact k1) k2
  · cases hg
    exact wpAppD s x hgd ho hown hs hx hm hr hlen hZ h
/-- An empty row, new. -/
theorem ownd_empty {w w' : World} {Z : Nat} {v : Value} (k : Ex (w.alloc (.cells #[] 26)) w') (hv : v = .slice (some ⟨w.heap.size, 0, none⟩) 0 0) (hZ : Z ≤ w.heap.size) : OwnD w' Z v [] := by
  subst hv
  exact owns_ex (owns_new (n := 0) (cap := 0) rfl hZ (by omega) (by decide) (by simp) (by simp)) k
theorem short_any (l : List Dg) (k : Nat) (a : Option Addr) (c : Nat) (w : World) (hk : k ≤ 1000) (hc : l.length ≤ c) (hcm : c ≤ maxLen) (ha : a = none → c = 0) (hs : SlD w a l) :
    Calls Tryd.prog 16 #[.slice a l.length c, I k] w (PostO w (l.take k)) := by
  unfold maxLen at hcm
  cases a with
  | none =>
    obtain rfl := ha rfl
    obtain rfl : l = [] := List.eq_nil_of_length_eq_zero (by omega)
    rw [List.take_nil, List.length_nil]
    go_enter Tryd.func16, Tryd.ntmps16
    go_wp2
    go_ret
    exact ⟨_, rfl, ownd_empty (by (try show Ex _ _); repeat (first | (with_reducible exact ex_refl _) | (with_reducible assumption) | (with_reducible refine ex_drewL ?_) | (with_reducible refine ex_appR ?_ _) | (with_reducible refine ex_wx ?_ _) | (with_reducible refine ex_drew ?_) | (with_reducible refine ex_alloc ?_ _))) (by simp [go_sem]) (by simp [go_sem]), (by (try show Ex _ _); repeat (first | (with_reducible exact ex_refl _) | (with_reducible assumption) | (with_reducible refine ex_drewL ?_) | (with_reducible refine ex_appR ?_ _) | (with_reducible refine ex_wx ?_ _) | (with_reducible refine ex_drew ?_) | (with_reducible refine ex_alloc ?_ _)))⟩
  | some ad =>
    clear ha
    obtain ⟨m, hm⟩ : ∃ m, min l.length k = m := ⟨_, rfl⟩
    have hml : (l.take k).length = m := by rw [List.length_take]; omega
    have hst : SlD w (some ad) (l.take k) := hs.take k
    generalize l.take k = r at hml hst ⊢
    generalize l.length = n at hc hm ⊢
    have e3 : m ≤ 1000 := by omega
    have HR : Hid (m = r.length) := Lib.hid hml.symm
    clear hs hml
    by_cases hkn : k < n
    · obtain rfl : m = k := by omega
      have e2 : (m : Int) ≤ c := by omega
      have e4 : (m : Int) < n := by omega
      clear hm
      go_enter Tryd.func16, Tryd.ntmps16
      go_wp2_with (at_builtin; refine wpAppS _ _ rfl rfl (ownd_empty (Z := w.heap.size) (by (try show Ex _ _); repeat (first | (with_reducible exact ex_refl _) | (with_reducible assumption) | (with_reducible refine ex_drewL ?_) | (with_reducible refine ex_appR ?_ _) | (with_reducible refine ex_wx ?_ _) | (with_reducible refine ex_drew ?_) | (with_reducible refine ex_alloc ?_ _))) (by simp [go_sem]) (by simp [go_sem])) rfl rfl HR.out (hst.ex (by (try show Ex _ _); repeat (first | (with_reducible exact ex_refl _) | (with_reducible assumption) | (with_reducible refine ex_drewL ?_) | (with_reducible refine ex_appR ?_ _) | (with_reducible refine ex_wx ?_ _) | (with_reducible refine ex_drew ?_) | (with_reducible refine ex_alloc ?_ _)))) (by have := HR.out; simp; omega) (by simp [go_sem]) (fun v1 w1 hown hbe => ?_); obtain ⟨X1, rfl⟩ := exOf (A := w) (by (try show Ex _ _); repeat (first | (with_reducible exact ex_refl _) | (with_reducible assumption) | (with_reducible refine ex_drewL ?_) | (with_reducible refine ex_appR ?_ _) | (with_reducible refine ex_wx ?_ _) | (with_reducible refine ex_drew ?_) | (with_reducible refine ex_alloc ?_ _))) hbe)
      go_ret
      exact ⟨_, rfl, by simpa using hown, (by (try show Ex _ _); repeat (first | (with_reducible exact ex_refl _) | (with_reducible assumption) | (with_reducible refine ex_drewL ?_) | (with_reducible refine ex_appR ?_ _) | (with_reducible refine ex_wx ?_ _) | (with_reducible refine ex_drew ?_) | (with_reducible refine ex_alloc ?_ _)))⟩
    · obtain rfl : m = n := by omega
      have e2 : (m : Int) ≤ c := by omega
      have e4 : ¬ (k : Int) < m := by omega
      clear hm
      go_enter Tryd.func16, Tryd.ntmps16
      go_wp2_with (at_builtin; refine wpAppS _ _ rfl rfl (ownd_empty (Z := w.heap.size) (by (try show Ex _ _); repeat (first | (with_reducible exact ex_refl _) | (with_reducible assumption) | (with_reducible refine ex_drewL ?_) | (with_reducible refine ex_appR ?_ _) | (with_reducible refine ex_wx ?_ _) | (with_reducible refine ex_drew ?_) | (with_reducible refine ex_alloc ?_ _))) (by simp [go_sem]) (by simp [go_sem])) rfl rfl HR.out (hst.ex (by (try show Ex _ _); repeat (first | (with_reducible exact ex_refl _) | (with_reducible assumption) | (with_reducible refine ex_drewL ?_) | (with_reducible refine ex_appR ?_ _) | (with_reducible refine ex_wx ?_ _) | (with_reducible refine ex_drew ?_) | (with_reducible refine ex_alloc ?_ _)))) (by have := HR.out; simp; omega) (by simp [go_sem]) (fun v1 w1 hown hbe => ?_); obtain ⟨X1, rfl⟩ := exOf (A := w) (by (try show Ex _ _); repeat (first | (with_reducible exact ex_refl _) | (with_reducible assumption) | (with_reducible refine ex_drewL ?_) | (with_reducible refine ex_appR ?_ _) | (with_reducible refine ex_wx ?_ _) | (with_reducible refine ex_drew ?_) | (with_reducible refine ex_alloc ?_ _))) hbe)
      go_ret
      exact ⟨_, rfl, by simpa using hown, (by (try show Ex _ _); repeat (first | (with_reducible exact ex_refl _) | (with_reducible assumption) | (with_reducible refine ex_drewL ?_) | (with_reducible refine ex_appR ?_ _) | (with_reducible refine ex_wx ?_ _) | (with_reducible refine ex_drew ?_) | (with_reducible refine ex_alloc ?_ _)))⟩
@[go_sem high] theorem eqlnil_id (a : Option Addr) (n c : Nat) (w : World) : (binOp .eql 22 (.slice a n c) (.slice none 0 0)).run Tryd.prog w = .ok (.bool a.isNone) w := _root_.Go.run_eql_slice_nil w _ _ a n c Tryd.underlying22
/-- Clone of digests of the call's own, not nil. -/
theorem cloned_any (l : List Dg) (a : Option Addr) (c : Nat) (w : World) (hl : l.length ≤ 1000) (hc : l.length ≤ c) (hcm : c ≤ maxLen) (ha : a = none → c = 0) (hs : SlD w a l) :
    Calls Tryd.prog 33 #[.slice a l.length c] w (PostO w l) := by
  unfold maxLen at hcm
  cases a with
  | none =>
    obtain rfl := ha rfl
    obtain rfl : l = [] := List.eq_nil_of_length_eq_zero (by omega)
    rw [List.length_nil]
    go_enter Tryd.func33, Tryd.ntmps33
    go_wp2
    go_ret
    exact ⟨_, rfl, ownd_nil _ _, (by (try show Ex _ _); repeat (first | (with_reducible exact ex_refl _) | (with_reducible assumption) | (with_reducible refine ex_drewL ?_) | (with_reducible refine ex_appR ?_ _) | (with_reducible refine ex_wx ?_ _) | (with_reducible refine ex_drew ?_) | (with_reducible refine ex_alloc ?_ _)))⟩
  | some ad =>
    clear ha
    have HR : Hid (l.length = l.length) := Lib.hid rfl
    go_enter Tryd.func33, Tryd.ntmps33
    go_wp2_with (at_builtin; refine wpAppS _ _ rfl rfl (ownd_empty (Z := w.heap.size) (by (try show Ex _ _); repeat (first | (with_reducible exact ex_refl _) | (with_reducible assumption) | (with_reducible refine ex_drewL ?_) | (with_reducible refine ex_appR ?_ _) | (with_reducible refine ex_wx ?_ _) | (with_reducible refine ex_drew ?_) | (with_reducible refine ex_alloc ?_ _))) (by simp [go_sem]) (by simp [go_sem])) rfl rfl HR.out (hs.ex (by (try show Ex _ _); repeat (first | (with_reducible exact ex_refl _) | (with_reducible assumption) | (with_reducible refine ex_drewL ?_) | (with_reducible refine ex_appR ?_ _) | (with_reducible refine ex_wx ?_ _) | (with_reducible refine ex_drew ?_) | (with_reducible refine ex_alloc ?_ _)))) (by simp; omega) (by simp [go_sem]) (fun v1 w1 hown hbe => ?_); obtain ⟨X1, rfl⟩ := exOf (A := w) (by (try show Ex _ _); repeat (first | (with_reducible exact ex_refl _) | (with_reducible assumption) | (with_reducible refine ex_drewL ?_) | (with_reducible refine ex_appR ?_ _) | (with_reducible refine ex_wx ?_ _) | (with_reducible refine ex_drew ?_) | (with_reducible refine ex_alloc ?_ _))) hbe)
    go_ret
    exact ⟨_, rfl, by simpa using hown, (by (try show Ex _ _); repeat (first | (with_reducible exact ex_refl _) | (with_reducible assumption) | (with_reducible refine ex_drewL ?_) | (with_reducible refine ex_appR ?_ _) | (with_reducible refine ex_wx ?_ _) | (with_reducible refine ex_drew ?_) | (with_reducible refine ex_alloc ?_ _)))⟩
end Go.Proofs.YtbobamifpjlmiaaDoor
