import Derived.Test.YtbobamifpjlmiaaDoorMPathR

/- The ways: sides, steps; over. -/
set_option linter.unusedSimpArgs false
set_option linter.unusedVariables false
set_option maxRecDepth 20000
namespace Go.Proofs.YtbobamifpjlmiaaDoor
open Go.RowKit
/-- append of one bool. -/
theorem wpAppL {ops : Array Oper} {rest : List Oper} {o : Oper} {a : Act} {w u : World} {Q : Exit → Act → World → Prop} (s x : Operand) (hgd : o.guard = none)
    (ho : o.op = .call { callee := .builtin .append, args := #[s, x], argTypes := #[94, 94] })
    {Z g : Nat} {v : Value} {l : List Bool} (b : Bool) (hown : OwnB w Z v l) (hs : a.eval s = v) (hx : a.eval x = .slice (some ⟨g, 0, none⟩) 1 1) (k : Ex (u.alloc (.cells #[.bool b] 4)) w) (hg : g = u.heap.size) (hlen : l.length + 1 ≤ 1000000) (hZ : Z ≤ w.heap.size)
    (h : ∀ v' w', OwnB w' Z v' (l ++ [b]) → Below Z w w' → wpList Tryd.prog ops Q rest (a.put o.dst v') w') : wpList Tryd.prog ops Q (o :: rest) a w := by
  subst hg
  have hb := ex_block k (heap_alloc_new u _)
  refine wpApp appBool s x hgd ho hown hs ⟨_, 0, none⟩ 1 1 ([b].flatMap KB) hx rfl (fun j y hj => ?_) (KB_one _) (by unfold maxLen; omega) (by omega) hZ fun v' w' k1 k2 => ?_
  · have hj0 : j = 0 := by
      have := (List.getElem?_eq_some_iff.1 hj).1
      simpa [KB] using this
    subst hj0
    have hadd : (⟨u.heap.size, 0, none⟩ : Addr).add 0 = ⟨u.heap.size, 0, none⟩ := by unfold Addr.add; simp
    rw [hadd, cell_of_row _ u.heap.size 0 _ _ _ hb]
    exact hj
  · rw [← List.flatMap_append, show l.length + 1 = (l ++ [b]).length by simp] at k1
    exact h v' w' k1 k2
theorem ownb_nil (w : World) (Z : Nat) : OwnB w Z (.slice none 0 0) [] := owns_nil _ _ _ _
theorem OwnB.ex {w w' : World} {Z : Nat} {v : Value} {l : List Bool} (h : OwnB w Z v l) (k : Ex w w') : OwnB w' Z v l := owns_ex h k
/-- What hands back bools of the call's own. -/
def PostW (Z : Nat) (W : World) (l : List Bool) (e : Ending) (w' : World) : Prop := ∃ v, e = .returned v ∧ OwnB w' Z v l ∧ ∃ X, w' = wx W X
theorem sides_len (N : Nat) : ∀ (n i : Nat), n = N → (sidesN n i).length ≤ n := by
  induction N using Nat.strongRecOn with
  | ind N ih =>
    intro n i hn
    by_cases h2 : 2 ≤ n
    · have h1 := split_lt h2
      have h3 := split_pos n
      by_cases hk : splitN n ≤ i
      · rw [sides_hi h2 hk]
        have := ih (n - splitN n) (by omega) _ (i - splitN n) rfl
        simp; omega
      · rw [sides_lo h2 hk]
        have := ih (splitN n) (by omega) _ i rfl
        simp; omega
    · rw [sides_one (by omega)]; simp
set_option maxHeartbeats 2000000 in
theorem sides_any (n i : Nat) (w : World) (hn : n ≤ 1024) (hi : i ≤ 1024) :
    Calls Tryd.prog 68 #[I n, I i] w (PostW w.heap.size w (sidesN n i)) := by
  obtain ⟨r, hr⟩ : ∃ r, r = sidesN n i := ⟨_, rfl⟩
  rw [← hr]
  have HR0 : Hid (r = sidesN n i) := Lib.hid hr
  clear hr
  go_enter Tryd.func68, Tryd.ntmps68
  go_wp2
  go_loopw [0, 1, 5] (fun x y v W => ∃ (m q : Nat) (out : List Bool), x = I m ∧ y = I q ∧ m ≤ 1024 ∧ q ≤ 1024 ∧ out.length + m ≤ 1024 ∧ Hid (r = out ++ sidesN m q) ∧ OwnB W w.heap.size v out ∧ Ex w W) (fun x _ _ _ => (intOf x).toNat)
  case atStart => exact ⟨n, i, [], rfl, rfl, hn, hi, by simp; omega, HR0, ownb_nil _ _, (by (try show Ex _ _); repeat (first | (with_reducible exact ex_refl _) | (with_reducible assumption) | (with_reducible refine ex_drewL ?_) | (with_reducible refine ex_appR ?_ _) | (with_reducible refine ex_wx ?_ _) | (with_reducible refine ex_drew ?_) | (with_reducible refine ex_alloc ?_ _)))⟩
  case round =>
    obtain ⟨m, q, out, rfl, rfl, hm, hq, k4, HR, hown, X, rfl⟩ := hrel
    by_cases h2 : 2 ≤ m
    · have hk1 := split_lt h2
      have hk2 := split_pos m
      have HSp := Lib.hid (split_any m h2 (by omega))
      have hsl := sides_lo (n := m) (i := q) h2
      have hsh := sides_hi (n := m) (i := q) h2
      generalize splitN m = k at hk1 hk2 HSp hsl hsh
      have j1 : (1 : Int) < m := by omega
      by_cases hqk : k ≤ q
      · have j6 : (k : Int) ≤ q := by omega
        have HE := Lib.hid (hsh hqk)
        clear hsl hsh
        go_wp2_with (first | (go_at_call 64; refine (HSp.out _).mono ?_; rintro e w' ⟨rfl, rfl⟩) | (at_builtin; refine wpAppL _ _ rfl rfl true (hown.ex (by (try show Ex _ _); repeat (first | (with_reducible exact ex_refl _) | (with_reducible assumption) | (with_reducible refine ex_drewL ?_) | (with_reducible refine ex_appR ?_ _) | (with_reducible refine ex_wx ?_ _) | (with_reducible refine ex_drew ?_) | (with_reducible refine ex_alloc ?_ _)))) rfl rfl (by (try show Ex _ _); repeat (first | (with_reducible exact ex_refl _) | (with_reducible assumption) | (with_reducible refine ex_drewL ?_) | (with_reducible refine ex_appR ?_ _) | (with_reducible refine ex_wx ?_ _) | (with_reducible refine ex_drew ?_) | (with_reducible refine ex_alloc ?_ _))) (by simp [go_sem]) (by omega) (by simp [go_sem] <;> omega) (fun v1 w1 hown1 hbe => ?_); obtain ⟨X1, rfl⟩ := exOf (A := w) (by (try show Ex _ _); repeat (first | (with_reducible exact ex_refl _) | (with_reducible assumption) | (with_reducible refine ex_drewL ?_) | (with_reducible refine ex_appR ?_ _) | (with_reducible refine ex_wx ?_ _) | (with_reducible refine ex_drew ?_) | (with_reducible refine ex_alloc ?_ _))) hbe))
        refine ⟨⟨m - k, q - k, out ++ [true], by go_num, by go_num, by omega, by omega, by simp; omega, Lib.hid ?_, hown1, (by (try show Ex _ _); repeat (first | (with_reducible exact ex_refl _) | (with_reducible assumption) | (with_reducible refine ex_drewL ?_) | (with_reducible refine ex_appR ?_ _) | (with_reducible refine ex_wx ?_ _) | (with_reducible refine ex_drew ?_) | (with_reducible refine ex_alloc ?_ _)))⟩, by simp [intOf]; omega⟩
        rw [HR.out, HE.out]; simp
      · have j6 : ¬ (k : Int) ≤ q := by omega
        have HE := Lib.hid (hsl hqk)
        clear hsl hsh
        go_wp2_with (first | (go_at_call 64; refine (HSp.out _).mono ?_; rintro e w' ⟨rfl, rfl⟩) | (at_builtin; refine wpAppL _ _ rfl rfl false (hown.ex (by (try show Ex _ _); repeat (first | (with_reducible exact ex_refl _) | (with_reducible assumption) | (with_reducible refine ex_drewL ?_) | (with_reducible refine ex_appR ?_ _) | (with_reducible refine ex_wx ?_ _) | (with_reducible refine ex_drew ?_) | (with_reducible refine ex_alloc ?_ _)))) rfl rfl (by (try show Ex _ _); repeat (first | (with_reducible exact ex_refl _) | (with_reducible assumption) | (with_reducible refine ex_drewL ?_) | (with_reducible refine ex_appR ?_ _) | (with_reducible refine ex_wx ?_ _) | (with_reducible refine ex_drew ?_) | (with_reducible refine ex_alloc ?_ _))) (by simp [go_sem]) (by omega) (by simp [go_sem] <;> omega) (fun v1 w1 hown1 hbe => ?_); obtain ⟨X1, rfl⟩ := exOf (A := w) (by (try show Ex _ _); repeat (first | (with_reducible exact ex_refl _) | (with_reducible assumption) | (with_reducible refine ex_drewL ?_) | (with_reducible refine ex_appR ?_ _) | (with_reducible refine ex_wx ?_ _) | (with_reducible refine ex_drew ?_) | (with_reducible refine ex_alloc ?_ _))) hbe))
        refine ⟨⟨k, q, out ++ [false], rfl, rfl, by omega, by omega, by simp; omega, Lib.hid ?_, hown1, (by (try show Ex _ _); repeat (first | (with_reducible exact ex_refl _) | (with_reducible assumption) | (with_reducible refine ex_drewL ?_) | (with_reducible refine ex_appR ?_ _) | (with_reducible refine ex_wx ?_ _) | (with_reducible refine ex_drew ?_) | (with_reducible refine ex_alloc ?_ _)))⟩, by simp [intOf]; omega⟩
        rw [HR.out, HE.out]; simp
    · have hs := sides_one (n := m) (by omega) q
      have HR2 : Hid (r = out) := Lib.hid (by rw [HR.out, hs]; simp)
      have j1 : ¬ (1 : Int) < m := by omega
      clear hs HR
      go_wp2
      go_ret
      rw [HR2.out]
      exact ⟨_, rfl, hown, (by (try show Ex _ _); repeat (first | (with_reducible exact ex_refl _) | (with_reducible assumption) | (with_reducible refine ex_drewL ?_) | (with_reducible refine ex_appR ?_ _) | (with_reducible refine ex_wx ?_ _) | (with_reducible refine ex_drew ?_) | (with_reducible refine ex_alloc ?_ _)))⟩
set_option maxHeartbeats 2000000 in
theorem steps_any (i n : Nat) (w : World) (hn : n ≤ 1024) (hi1 : 1 ≤ i) (hi : i ≤ n) :
    Calls Tryd.prog 90 #[I i, I n] w (PostW w.heap.size w (stepsN i n)) := by
  obtain ⟨r, hr⟩ : ∃ r, r = stepsN i n := ⟨_, rfl⟩
  rw [← hr]
  have HR0 : Hid (r = stepsN i n) := Lib.hid hr
  clear hr
  go_enter Tryd.func90, Tryd.ntmps90
  go_wp2
  go_loopw [0, 1, 5] (fun y x v W => ∃ (m q : Nat) (out : List Bool), y = I q ∧ x = I m ∧ m ≤ 1024 ∧ 1 ≤ q ∧ q ≤ m ∧ out.length + m ≤ 1024 ∧ Hid (r = out ++ stepsN q m) ∧ OwnB W w.heap.size v out ∧ Ex w W) (fun _ x _ _ => (intOf x).toNat)
  case atStart => exact ⟨n, i, [], rfl, rfl, hn, hi1, hi, by simp; omega, HR0, ownb_nil _ _, (by (try show Ex _ _); repeat (first | (with_reducible exact ex_refl _) | (with_reducible assumption) | (with_reducible refine ex_drewL ?_) | (with_reducible refine ex_appR ?_ _) | (with_reducible refine ex_wx ?_ _) | (with_reducible refine ex_drew ?_) | (with_reducible refine ex_alloc ?_ _)))⟩
  case round =>
    obtain ⟨m, q, out, rfl, rfl, hm, hq1, hq, k4, HR, hown, X, rfl⟩ := hrel
    by_cases h2 : q < m
    · have hk1 := split_lt (n := m) (by omega)
      have hk2 := split_pos m
      have HSp := Lib.hid (split_any m (by omega) (by omega))
      have hsl := steps_lo (n := m) (m := q) hq1 h2
      have hsh := steps_hi (n := m) (m := q) hq1 h2
      generalize splitN m = k at hk1 hk2 HSp hsl hsh
      have j1 : (q : Int) < m := by omega
      by_cases hqk : k < q
      · have j6 : (k : Int) < q := by omega
        have HE := Lib.hid (hsh hqk)
        clear hsl hsh
        go_wp2_with (first | (go_at_call 64; refine (HSp.out _).mono ?_; rintro e w' ⟨rfl, rfl⟩) | (at_builtin; refine wpAppL _ _ rfl rfl true (hown.ex (by (try show Ex _ _); repeat (first | (with_reducible exact ex_refl _) | (with_reducible assumption) | (with_reducible refine ex_drewL ?_) | (with_reducible refine ex_appR ?_ _) | (with_reducible refine ex_wx ?_ _) | (with_reducible refine ex_drew ?_) | (with_reducible refine ex_alloc ?_ _)))) rfl rfl (by (try show Ex _ _); repeat (first | (with_reducible exact ex_refl _) | (with_reducible assumption) | (with_reducible refine ex_drewL ?_) | (with_reducible refine ex_appR ?_ _) | (with_reducible refine ex_wx ?_ _) | (with_reducible refine ex_drew ?_) | (with_reducible refine ex_alloc ?_ _))) (by simp [go_sem]) (by omega) (by simp [go_sem] <;> omega) (fun v1 w1 hown1 hbe => ?_); obtain ⟨X1, rfl⟩ := exOf (A := w) (by (try show Ex _ _); repeat (first | (with_reducible exact ex_refl _) | (with_reducible assumption) | (with_reducible refine ex_drewL ?_) | (with_reducible refine ex_appR ?_ _) | (with_reducible refine ex_wx ?_ _) | (with_reducible refine ex_drew ?_) | (with_reducible refine ex_alloc ?_ _))) hbe))
        refine ⟨⟨m - k, q - k, out ++ [true], by go_num, by go_num, by omega, by omega, by omega, by simp; omega, Lib.hid ?_, hown1, (by (try show Ex _ _); repeat (first | (with_reducible exact ex_refl _) | (with_reducible assumption) | (with_reducible refine ex_drewL ?_) | (with_reducible refine ex_appR ?_ _) | (with_reducible refine ex_wx ?_ _) | (with_reducible refine ex_drew ?_) | (with_reducible refine ex_alloc ?_ _)))⟩, by simp [intOf]; omega⟩
        rw [HR.out, HE.out]; simp
      · have j6 : ¬ (k : Int) < q := by omega
        have HE := Lib.hid (hsl hqk)
        clear hsl hsh
        go_wp2_with (first | (go_at_call 64; refine (HSp.out _).mono ?_; rintro e w' ⟨rfl, rfl⟩) | (at_builtin; refine wpAppL _ _ rfl rfl false (hown.ex (by (try show Ex _ _); repeat (first | (with_reducible exact ex_refl _) | (with_reducible assumption) | (with_reducible refine ex_drewL ?_) | (with_reducible refine ex_appR ?_ _) | (with_reducible refine ex_wx ?_ _) | (with_reducible refine ex_drew ?_) | (with_reducible refine ex_alloc ?_ _)))) rfl rfl (by (try show Ex _ _); repeat (first | (with_reducible exact ex_refl _) | (with_reducible assumption) | (with_reducible refine ex_drewL ?_) | (with_reducible refine ex_appR ?_ _) | (with_reducible refine ex_wx ?_ _) | (with_reducible refine ex_drew ?_) | (with_reducible refine ex_alloc ?_ _))) (by simp [go_sem]) (by omega) (by simp [go_sem] <;> omega) (fun v1 w1 hown1 hbe => ?_); obtain ⟨X1, rfl⟩ := exOf (A := w) (by (try show Ex _ _); repeat (first | (with_reducible exact ex_refl _) | (with_reducible assumption) | (with_reducible refine ex_drewL ?_) | (with_reducible refine ex_appR ?_ _) | (with_reducible refine ex_wx ?_ _) | (with_reducible refine ex_drew ?_) | (with_reducible refine ex_alloc ?_ _))) hbe))
        refine ⟨⟨k, q, out ++ [false], rfl, rfl, by omega, by omega, by omega, by simp; omega, Lib.hid ?_, hown1, (by (try show Ex _ _); repeat (first | (with_reducible exact ex_refl _) | (with_reducible assumption) | (with_reducible refine ex_drewL ?_) | (with_reducible refine ex_appR ?_ _) | (with_reducible refine ex_wx ?_ _) | (with_reducible refine ex_drew ?_) | (with_reducible refine ex_alloc ?_ _)))⟩, by simp [intOf]; omega⟩
        rw [HR.out, HE.out]; simp
    · have hs := steps_all (n := m) (m := q) (by omega)
      have HR2 : Hid (r = out) := Lib.hid (by rw [HR.out, hs]; simp)
      have j1 : ¬ (q : Int) < m := by omega
      clear hs HR
      go_wp2
      go_ret
      rw [HR2.out]
      exact ⟨_, rfl, hown, (by (try show Ex _ _); repeat (first | (with_reducible exact ex_refl _) | (with_reducible assumption) | (with_reducible refine ex_drewL ?_) | (with_reducible refine ex_appR ?_ _) | (with_reducible refine ex_wx ?_ _) | (with_reducible refine ex_drew ?_) | (with_reducible refine ex_alloc ?_ _)))⟩
set_option maxHeartbeats 1000000 in
theorem over_any {w : World} (G : Glob w) (b : Bool) (x o : Dg) : ∀ w', Ex w w' →
    Calls Tryd.prog 70 #[.bool b, .agg (rowB 32 (dF x)), .agg (rowB 32 (dF o))] w' (Post w' (.agg (rowB 32 (dF (overD b x o))))) := by
  intro w' k
  replace G := G.ex k
  clear k
  have HN : Hid (∀ y z w2, Ex w' w2 → Calls Tryd.prog 24 #[.agg (rowB 32 (dF y)), .agg (rowB 32 (dF z))] w2 (Post w2 (.agg (rowB 32 (dF (nodeD y z)))))) := Lib.hid fun y z w2 k => node_any G y z w2 k
  cases b
  all_goals
    go_enter Tryd.func70, Tryd.ntmps70
    go_wp2_with (go_at_call 24; refine (HN.out _ _ _ (by (try show Ex _ _); repeat (first | (with_reducible exact ex_refl _) | (with_reducible assumption) | (with_reducible refine ex_drewL ?_) | (with_reducible refine ex_appR ?_ _) | (with_reducible refine ex_wx ?_ _) | (with_reducible refine ex_drew ?_) | (with_reducible refine ex_alloc ?_ _)))).mono ?_; rintro e w2 ⟨rfl, X, rfl⟩)
  · exact ret_row (cs := rowB 32 (dF (nodeD x o))) Tryd.results70 Tryd.underlying26 rfl info_id rfl (by simp [go_sem]) rfl (post_mk rfl (by (try show Ex _ _); repeat (first | (with_reducible exact ex_refl _) | (with_reducible assumption) | (with_reducible refine ex_drewL ?_) | (with_reducible refine ex_appR ?_ _) | (with_reducible refine ex_wx ?_ _) | (with_reducible refine ex_drew ?_) | (with_reducible refine ex_alloc ?_ _))))
  · exact ret_row (cs := rowB 32 (dF (nodeD o x))) Tryd.results70 Tryd.underlying26 rfl info_id rfl (by simp [go_sem]) rfl (post_mk rfl (by (try show Ex _ _); repeat (first | (with_reducible exact ex_refl _) | (with_reducible assumption) | (with_reducible refine ex_drewL ?_) | (with_reducible refine ex_appR ?_ _) | (with_reducible refine ex_wx ?_ _) | (with_reducible refine ex_drew ?_) | (with_reducible refine ex_alloc ?_ _))))
/-- A row of bools behind A. -/
theorem ownb_at {A : World} {X : More} {v : Value} {l : List Bool} (h : OwnB (wx A X) A.heap.size v l) (hl : 0 < l.length) :
    ∃ q cap cur, v = .slice (some ⟨A.heap.size + q, 0, none⟩) l.length cap ∧ X.at q = some (.cells cur 4 (0, 0)) ∧ l.length ≤ cap ∧ cap ≤ maxLen ∧ ∀ (k : Nat) (b : Bool), l[k]? = some b → cur[k]? = some (Value.bool b) := by
  obtain ⟨g, cap, cur, rfl, h1, h2, h3, h4, h5, h6⟩ := own_block h hl (by omega)
  refine ⟨g - A.heap.size, cap, cur, by rw [show A.heap.size + (g - A.heap.size) = g by omega], ?_, h3, h4, fun k b hk => ?_⟩
  · rw [← wx_heap_more A X, show A.heap.size + (g - A.heap.size) = g by omega]; exact h2
  · have := flat_get KB_len l k b 0 hk (by omega)
    rw [← h6] at this
    simp only [Nat.mul_one, Nat.add_zero, List.getElem?_take, Array.getElem?_toList] at this
    rw [if_pos (List.getElem?_eq_some_iff.1 hk).1] at this
    exact this
/-- What lies behind A lies behind another as long. -/
theorem own_swap {A A' : World} {X : More} {Z : Nat} {t : TypeId} {s : Nat} {v : Value} {n : Nat} {xs : List Value} (h : (wx A X).ownsRow Z t s v n xs) (hs : A.heap.size = A'.heap.size) (hZ : A.heap.size ≤ Z) : (wx A' X).ownsRow Z t s v n xs := by
  refine ⟨h.1, ?_⟩
  rcases h.2 with h | ⟨g, cap, cur, h1, h2, h3, h4⟩
  · exact Or.inl h
  · refine Or.inr ⟨g, cap, cur, h1, h2, ?_, h4⟩
    have e1 := wx_heap_more A X (g - A.heap.size)
    have e2 := wx_heap_more A' X (g - A.heap.size)
    rw [show A.heap.size + (g - A.heap.size) = g by omega] at e1
    rw [← hs, show A.heap.size + (g - A.heap.size) = g by omega] at e2
    rw [e2, ← e1]; exact h3
end Go.Proofs.YtbobamifpjlmiaaDoor
