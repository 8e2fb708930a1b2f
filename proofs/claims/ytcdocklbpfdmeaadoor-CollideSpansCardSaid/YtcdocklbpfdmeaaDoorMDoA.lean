import Derived.Test.YtcdocklbpfdmeaaDoorMCoQ
import Derived.Test.YtcdocklbpfdmeaaDoorMClimb

/- Collide's document: the clashes in memory; step. -/
set_option linter.unusedSimpArgs false
set_option linter.unusedVariables false
set_option linter.unnecessarySimpa false
set_option maxRecDepth 20000
namespace Go.Proofs.YtcdocklbpfdmeaaDoor
open Go.RowKit
/-- A row of clashes: none, or one. -/
def ClR (w : World) (v : Value) : Cl → Prop
  | none => v = .slice none 0 0
  | some x => ∃ sa sb, w.ownsRow 0 37 2 v 1 [sa, sb] ∧ OwnU w sa x.1 ∧ OwnU w sb x.2
/-- The variable that holds the clashes. -/
structure Cd (w : World) (p : Nat) (c : Cl) : Prop where
  out : ∃ v, w.heap[p]? = some (.cells #[v] 57 (0, 0)) ∧ ClR w v c
structure NoD (w : World) (F : Nat → Prop) : Prop where
  out : ∀ b cs t fr, F b → w.heap[b]? = some (.cells cs t fr) → t ≠ 5 ∧ t ≠ 57 ∧ t ≠ 37
theorem NoD.nou {w : World} {F : Nat → Prop} (h : NoD w F) : NoU w F := ⟨fun b cs fr hb h' => (h.out b cs _ fr hb h').1 rfl⟩
theorem nod_type {w : World} {r : Nat} {cs : Array Value} {t : TypeId} {fr : Nat × Nat} (h : w.heap[r]? = some (.cells cs t fr)) (h1 : t ≠ 5) (h2 : t ≠ 57) (h3 : t ≠ 37) : NoD w (fun b => b = r) := ⟨fun b cs' t fr' hb h' => by
  subst hb
  rw [h] at h'
  cases h'
  exact ⟨h1, h2, h3⟩⟩
theorem owns_frm {w w' : World} {Z : Nat} {t : TypeId} {s : Nat} {v : Value} {n : Nat} {xs : List Value} {F : Nat → Prop} (h : w.ownsRow Z t s v n xs) (hF : ∀ b cs fr, F b → w.heap[b]? ≠ some (.cells cs t fr)) (k : Frm F w w') : w'.ownsRow Z t s v n xs := by
  refine ⟨h.1, ?_⟩
  rcases h.2 with h2 | ⟨g, cap, cur, h1, h2, h3, h4⟩
  · exact Or.inl h2
  · exact Or.inr ⟨g, cap, cur, h1, h2, (k.same g (Array.getElem?_eq_some_iff.1 h3).1 fun e => hF g _ _ e h3).trans h3, h4⟩
theorem ClR.frm {w w' : World} {v : Value} {c : Cl} {F : Nat → Prop} (h : ClR w v c) (hu : NoU w F) (hF : ∀ b cs fr, F b → w.heap[b]? ≠ some (.cells cs 37 fr)) (k : Frm F w w') : ClR w' v c := by
  cases c with
  | none => exact h
  | some x =>
    obtain ⟨sa, sb, h1, h2, h3⟩ := h
    exact ⟨sa, sb, owns_frm h1 hF k, h2.frm hu k, h3.frm hu k⟩
theorem ClR.ex {w w' : World} {v : Value} {c : Cl} (h : ClR w v c) (k : Ex w w') : ClR w' v c := by
  cases c with
  | none => exact h
  | some x =>
    obtain ⟨sa, sb, h1, h2, h3⟩ := h
    exact ⟨sa, sb, owns_ex h1 k, h2.ex k, h3.ex k⟩
theorem Cd.lt {w : World} {p : Nat} {c : Cl} (h : Cd w p c) : p < w.heap.size := by
  obtain ⟨v, h1, _⟩ := h.out
  exact (Array.getElem?_eq_some_iff.1 h1).1
theorem Cd.ex {w w' : World} {p : Nat} {c : Cl} (h : Cd w p c) (k : Ex w w') : Cd w' p c := by
  obtain ⟨v, h1, h2⟩ := h.out
  exact ⟨v, ex_block k h1, h2.ex k⟩
theorem Cd.nou {w : World} {p : Nat} {c : Cl} (h : Cd w p c) : NoU w (fun b => b = p) := by
  obtain ⟨v, h1, _⟩ := h.out
  exact nou_type h1 (by decide)
theorem Cd.frm {w w' : World} {p : Nat} {c : Cl} {F : Nat → Prop} (h : Cd w p c) (hF : NoD w F) (k : Frm F w w') : Cd w' p c := by
  obtain ⟨v, h1, h2⟩ := h.out
  exact ⟨v, (k.same p (Array.getElem?_eq_some_iff.1 h1).1 fun e => (hF.out p _ _ _ e h1).2.1 rfl).trans h1, h2.frm hF.nou (fun b cs fr hb h' => (hF.out b cs _ fr hb h').2.2 rfl) k⟩
theorem Cd.new {w : World} : Cd (w.alloc (.cells #[.slice none 0 0] 57)) w.heap.size none := ⟨_, heap_alloc_new _ _, rfl⟩
theorem Cd.new' {w : World} {p : Nat} (hp : p = w.heap.size) : Cd (w.alloc (.cells #[.slice none 0 0] 57)) p none := by subst hp; exact Cd.new
theorem Cd.none_cell {w : World} {p : Nat} (h : Cd w p none) : w.heap[p]? = some (.cells #[.slice none 0 0] 57 (0, 0)) := by
  obtain ⟨v, h1, h2⟩ := h.out
  cases h2; exact h1
theorem ClR.len {w : World} {v : Value} {x : List UInt8 × List UInt8} (h : ClR w v (some x)) : ∃ g cap, v = .slice (some ⟨g, 0, none⟩) 1 cap ∧ 1 ≤ cap ∧ cap ≤ maxLen := by
  obtain ⟨sa, sb, h1, _⟩ := h
  obtain ⟨g, cap, cur, rfl, _, _, h2, h3, _⟩ := own_block h1 (by omega) (by omega)
  exact ⟨g, cap, rfl, h2, h3⟩
/-- A clash is noted. -/
theorem Cd.note {w w' : World} {p : Nat} {v' sa sb : Value} {A D : List UInt8} (h : Cd w p none) (k : Ex (w.setCell ⟨p, 0, none⟩ v') w')
    (hw : w'.ownsRow 0 37 2 v' 1 [sa, sb]) (h1 : OwnU w sa A) (h2 : OwnU w sb D) : FrP p w w' ∧ Cd w' p (some (A, D)) := by
  have f1 : FrP p w (w.setCell ⟨p, 0, none⟩ v') := (Frm.refl (fun b => b = p) w).set (b := p) rfl 0 _
  have f2 : FrP p w w' := f1.trans (Frm.ex k)
  refine ⟨f2, v', ?_, sa, sb, hw, h1.frm h.nou f2, h2.frm h.nou f2⟩
  refine ex_block k ?_
  rw [setCellF_block _ h.none_cell]
  rfl
theorem owns_tail {C C' : World} {X : More} {t : TypeId} {s : Nat} {v : Value} {n : Nat} {xs : List Value} (hs : C'.heap.size = C.heap.size) (h : (wx C X).ownsRow C.heap.size t s v n xs) : (wx C' X).ownsRow 0 t s v n xs := by
  refine ⟨h.1, ?_⟩
  rcases h.2 with h2 | ⟨g, cap, cur, h1, h2, h3, h4⟩
  · exact Or.inl h2
  · refine Or.inr ⟨g, cap, cur, h1, Nat.zero_le _, ?_, h4⟩
    have e1 := wx_heap_more C X (g - C.heap.size)
    have e2 := wx_heap_more C' X (g - C.heap.size)
    rw [show C.heap.size + (g - C.heap.size) = g by omega] at e1
    rw [hs, show C.heap.size + (g - C.heap.size) = g by omega] at e2
    rw [e2, ← e1, h3]
def PostD (p : Nat) (w : World) (v : Value) (c : Cl) (e : Ending) (w' : World) : Prop := e = .returned v ∧ FrP p w w' ∧ Cd w' p c
theorem postd_ex {p : Nat} {w w' : World} {v : Value} {c : Cl} {e : Ending} (he : e = .returned v) (h : Cd w p c) (k : Ex w w') : PostD p w v c e w' := ⟨he, Frm.ex k, h.ex k⟩
theorem appClash : AppT Tryd.prog 57 37 2 48 (.agg #[.slice none 0 0, .slice none 0 0]) := ⟨Tryd.underlying57, by kernel_rfl, by simp [Value.cells], by decide⟩
set_option maxHeartbeats 1000000 in
theorem step_any (W : Nat) (hW : W ≤ 256) {p : Nat} {c : Cl} {v u : Value} {A D : List UInt8} {w : World} (hk : Cd w p c) (hv : OwnU w v A) (hu : OwnU w u D) (hA : A.length ≤ 1000000) (hD : D.length ≤ 1000000) :
    Calls Tryd.prog 92 #[I W, v, u, .pointer (some ⟨p, 0, none⟩)] w (PostD p w (.agg (rowB 32 (dF (putC (sumW W) A D c).1))) (putC (sumW W) A D c).2) := by
  have HS : Hid (∀ w', Ex w w' → Calls Tryd.prog 26 #[I W, v] w' (Post w' (.agg (rowB 32 (dF (sumW W A)))))) := Lib.hid fun w' k => digest_any W hW (hv.slt.ex k) hA
  have HT : Hid (∀ w', Ex w w' → Calls Tryd.prog 26 #[I W, u] w' (Post w' (.agg (rowB 32 (dF (sumW W D)))))) := Lib.hid fun w' k => digest_any W hW (hu.slt.ex k) hD
  have HE : Hid (∀ w', Ex w w' → Calls Tryd.prog 71 #[v, u] w' (Post w' (.bool (decide (A = D))))) := Lib.hid fun w' k => sameB_any (hv.slt.ex k) (hu.slt.ex k)
  have hlt := hk.lt
  have HK := Lib.hid hk
  obtain ⟨va, vc, rfl, _⟩ := hv.slt.out
  obtain ⟨ua, uc, rfl, _⟩ := hu.slt.out
  have HV := Lib.hid hv
  have HU := Lib.hid hu
  have H1 : Hid ((putC (sumW W) A D c).1 = sumW W A) := Lib.hid rfl
  rw [H1.out]
  by_cases hc : c = none
  · subst hc
    obtain ⟨hw1, hf1⟩ := block_cellF (o := 0) (v := .slice none 0 0) hk.none_cell rfl
    by_cases hAD : A = D
    · have H2 : Hid ((putC (sumW W) A D none).2 = none) := Lib.hid (by unfold putC; rw [if_neg (by simp [hAD])])
      rw [H2.out]
      rw [decide_eq_true hAD] at HE
      generalize sumW W A = x at HS ⊢
      clear hk hv hu hAD H1 H2 HT
      go_enter Tryd.func92, Tryd.ntmps92
      go_wp2_with (go_at_call 26; (with_reducible refine (HS.out _ (by (try show Ex _ _); with_reducible repeat (first | exact ex_refl _ | assumption | refine ex_drewL ?_ | refine ex_appR ?_ _ | refine ex_wx ?_ _ | refine ex_drew ?_ | refine ex_alloc ?_ _))).mono ?_); rintro e w2 ⟨rfl, X, rfl⟩)
      refine wp_region_seq [(0, true), (1, true), (2, true), (3, true), (4, true), (5, true), (6, true), (7, true), (8, false), (9, true), (10, true), (11, true), (12, true), (13, true), (14, true), (15, false), (16, true), (17, true)] (by kernel_rfl) (by kernel_rfl) (fun _ _ d _ _ h => by cases d <;> exact h) ?_
      simp only [List.map_cons, List.map_nil, nth]
      repeat (first | ((with_reducible refine wpSeq_look ?_); go_big_quiet_step (fail); (with_reducible refine wpQuiet_nil ?_)) | ((with_reducible refine wpSeq_effF ?_ ?_); (focus rfl); go_simp) | ((with_reducible refine wpSeq_eff ?_ ?_); (focus rfl); (try dsimp only); go_wp2_with (first | (go_at_call 71; (with_reducible refine (HE.out _ (by (try show Ex _ _); with_reducible repeat (first | exact ex_refl _ | assumption | refine ex_drewL ?_ | refine ex_appR ?_ _ | refine ex_wx ?_ _ | refine ex_drew ?_ | refine ex_alloc ?_ _))).mono ?_); rintro e w2 ⟨rfl, X, rfl⟩)); refine mixQ_mk (by (try show Ex _ _); with_reducible repeat (first | exact ex_refl _ | assumption | refine ex_drewL ?_ | refine ex_appR ?_ _ | refine ex_wx ?_ _ | refine ex_drew ?_ | refine ex_alloc ?_ _)) ?_))
      refine wpSeq_nil ?_
      go_wp2
      exact ret_row (cs := rowB 32 (dF x)) Tryd.results92 Tryd.underlying46 rfl info_id rfl (by simp [go_sem]) rfl (postd_ex rfl HK.out (by (try show Ex _ _); with_reducible repeat (first | exact ex_refl _ | assumption | refine ex_drewL ?_ | refine ex_appR ?_ _ | refine ex_wx ?_ _ | refine ex_drew ?_ | refine ex_alloc ?_ _)))
    · rw [decide_eq_false hAD] at HE
      have he := eqD (sumW W A) (sumW W D)
      by_cases hSS : sumW W A = sumW W D
      · have H2 : Hid ((putC (sumW W) A D none).2 = some (A, D)) := Lib.hid (by unfold putC; rw [if_pos ⟨rfl, hAD, hSS⟩])
        rw [H2.out]
        rw [decide_eq_true hSS] at he
        generalize sumW W A = x at HS he ⊢
        generalize sumW W D = y at HT he
        clear hk hv hu hAD H1 H2 hSS
        go_enter Tryd.func92, Tryd.ntmps92
        go_wp2_with (go_at_call 26; (with_reducible refine (HS.out _ (by (try show Ex _ _); with_reducible repeat (first | exact ex_refl _ | assumption | refine ex_drewL ?_ | refine ex_appR ?_ _ | refine ex_wx ?_ _ | refine ex_drew ?_ | refine ex_alloc ?_ _))).mono ?_); rintro e w2 ⟨rfl, XA, rfl⟩)
        refine wp_region_seq [(0, true), (1, true), (2, true), (3, true), (4, true), (5, true), (6, true), (7, true), (8, false), (9, true), (10, true), (11, true), (12, true), (13, true), (14, true), (15, false), (16, true), (17, true)] (by kernel_rfl) (by kernel_rfl) (fun _ _ d _ _ h => by cases d <;> exact h) ?_
        simp only [List.map_cons, List.map_nil, nth]
        repeat (first | ((with_reducible refine wpSeq_look ?_); go_big_quiet_step (fail); (with_reducible refine wpQuiet_nil ?_)) | ((with_reducible refine wpSeq_effF ?_ ?_); (focus rfl); go_simp) | ((with_reducible refine wpSeq_eff ?_ ?_); (focus rfl); (try dsimp only); go_wp2_with (first | (go_at_call 71; (with_reducible refine (HE.out _ (by (try show Ex _ _); with_reducible repeat (first | exact ex_refl _ | assumption | refine ex_drewL ?_ | refine ex_appR ?_ _ | refine ex_wx ?_ _ | refine ex_drew ?_ | refine ex_alloc ?_ _))).mono ?_); rintro e w2 ⟨rfl, XB, rfl⟩) | (go_at_call 26; (with_reducible refine (HT.out _ (by (try show Ex _ _); with_reducible repeat (first | exact ex_refl _ | assumption | refine ex_drewL ?_ | refine ex_appR ?_ _ | refine ex_wx ?_ _ | refine ex_drew ?_ | refine ex_alloc ?_ _))).mono ?_); rintro e w2 ⟨rfl, XC, rfl⟩)); refine mixQ_mk (by (try show Ex _ _); with_reducible repeat (first | exact ex_refl _ | assumption | refine ex_drewL ?_ | refine ex_appR ?_ _ | refine ex_wx ?_ _ | refine ex_drew ?_ | refine ex_alloc ?_ _)) ?_))
        refine wpSeq_nil ?_
        have HC := Lib.hid (fun (XX : More) => news_alloc (w := wx ((wx (w.alloc (.cells (rowB 32 fun _ => 0) 46)) XA).alloc (.cells (rowB 32 (dF x)) 46)) XX) (cs := #[.slice va A.length vc, .slice ua D.length uc]) (e := 37) rfl (ex_refl _))
        go_wp2_with (at_builtin; refine wpApp appClash _ _ rfl rfl (owns_nil _ ((wx ((wx (w.alloc (.cells (rowB 32 fun _ => 0) 46)) XA).alloc (.cells (rowB 32 (dF x)) 46)) (XB.app XC)).alloc (.cells #[.slice va A.length vc, .slice ua D.length uc] 37)).heap.size 37 2) rfl ⟨w.heap.size + 1 + XA.blocks.length + 1 + (XB.blocks.length + XC.blocks.length), 0, none⟩ 1 1 [.slice va A.length vc, .slice ua D.length uc] rfl rfl (by have := HC.out (XB.app XC); simpa [go_sem] using this) (by intro u hu; simp at hu; rcases hu with rfl | rfl <;> rfl) (by decide) (by decide) (Nat.le_refl _) (fun v1 w1 hown hbe => ?_); obtain ⟨X9, rfl⟩ := exOf (ex_refl _) hbe; simp only [Nat.zero_add, List.nil_append] at hown; obtain ⟨g9, cap9, cur9, rfl, hg9, _⟩ := own_block hown (by omega) (by omega); replace hown := Lib.hid hown; replace hg9 := Lib.hid hg9; clear hbe)
        all_goals first | (exfalso; omega) | exact ret_row (cs := rowB 32 (dF x)) Tryd.results92 Tryd.underlying46 rfl info_id rfl (by simp [go_sem] <;> (repeat (first | rw [if_pos (by omega)] | rw [if_neg (by omega)]))) rfl ⟨rfl, HK.out.note (by (try show Ex _ _); with_reducible repeat (first | exact ex_refl _ | assumption | refine ex_drewL ?_ | refine ex_appR ?_ _ | refine ex_wx ?_ _ | refine ex_drew ?_ | refine ex_alloc ?_ _)) (owns_tail (by simp [go_sem]) hown.out) HV.out HU.out⟩
      · have H2 : Hid ((putC (sumW W) A D none).2 = none) := Lib.hid (by unfold putC; rw [if_neg (by simp [hSS])])
        rw [H2.out]
        rw [decide_eq_false hSS] at he
        generalize sumW W A = x at HS he ⊢
        generalize sumW W D = y at HT he
        clear hk hv hu hAD H1 H2 hSS
        go_enter Tryd.func92, Tryd.ntmps92
        go_wp2_with (go_at_call 26; (with_reducible refine (HS.out _ (by (try show Ex _ _); with_reducible repeat (first | exact ex_refl _ | assumption | refine ex_drewL ?_ | refine ex_appR ?_ _ | refine ex_wx ?_ _ | refine ex_drew ?_ | refine ex_alloc ?_ _))).mono ?_); rintro e w2 ⟨rfl, X, rfl⟩)
        refine wp_region_seq [(0, true), (1, true), (2, true), (3, true), (4, true), (5, true), (6, true), (7, true), (8, false), (9, true), (10, true), (11, true), (12, true), (13, true), (14, true), (15, false), (16, true), (17, true)] (by kernel_rfl) (by kernel_rfl) (fun _ _ d _ _ h => by cases d <;> exact h) ?_
        simp only [List.map_cons, List.map_nil, nth]
        repeat (first | ((with_reducible refine wpSeq_look ?_); go_big_quiet_step (fail); (with_reducible refine wpQuiet_nil ?_)) | ((with_reducible refine wpSeq_effF ?_ ?_); (focus rfl); go_simp) | ((with_reducible refine wpSeq_eff ?_ ?_); (focus rfl); (try dsimp only); go_wp2_with (first | (go_at_call 71; (with_reducible refine (HE.out _ (by (try show Ex _ _); with_reducible repeat (first | exact ex_refl _ | assumption | refine ex_drewL ?_ | refine ex_appR ?_ _ | refine ex_wx ?_ _ | refine ex_drew ?_ | refine ex_alloc ?_ _))).mono ?_); rintro e w2 ⟨rfl, X, rfl⟩) | (go_at_call 26; (with_reducible refine (HT.out _ (by (try show Ex _ _); with_reducible repeat (first | exact ex_refl _ | assumption | refine ex_drewL ?_ | refine ex_appR ?_ _ | refine ex_wx ?_ _ | refine ex_drew ?_ | refine ex_alloc ?_ _))).mono ?_); rintro e w2 ⟨rfl, X, rfl⟩)); refine mixQ_mk (by (try show Ex _ _); with_reducible repeat (first | exact ex_refl _ | assumption | refine ex_drewL ?_ | refine ex_appR ?_ _ | refine ex_wx ?_ _ | refine ex_drew ?_ | refine ex_alloc ?_ _)) ?_))
        refine wpSeq_nil ?_
        go_wp2
        exact ret_row (cs := rowB 32 (dF x)) Tryd.results92 Tryd.underlying46 rfl info_id rfl (by simp [go_sem]) rfl (postd_ex rfl HK.out (by (try show Ex _ _); with_reducible repeat (first | exact ex_refl _ | assumption | refine ex_drewL ?_ | refine ex_appR ?_ _ | refine ex_wx ?_ _ | refine ex_drew ?_ | refine ex_alloc ?_ _)))
  · obtain ⟨y, rfl⟩ : ∃ y, c = some y := Option.ne_none_iff_exists'.1 hc
    obtain ⟨cv, hcb, hcr⟩ := hk.out
    obtain ⟨q, cap, rfl, _, _⟩ := hcr.len
    have hw1 := (block_cellF (o := 0) (v := .slice (some ⟨q, 0, none⟩) 1 cap) hcb rfl).1
    have H2 : Hid ((putC (sumW W) A D (some y)).2 = some y) := Lib.hid (by unfold putC; rw [if_neg (by simp)])
    rw [H2.out]
    generalize sumW W A = x at HS ⊢
    clear hk hv hu H1 H2 HT HE hcb hcr hc
    go_enter Tryd.func92, Tryd.ntmps92
    go_wp2_with (go_at_call 26; (with_reducible refine (HS.out _ (by (try show Ex _ _); with_reducible repeat (first | exact ex_refl _ | assumption | refine ex_drewL ?_ | refine ex_appR ?_ _ | refine ex_wx ?_ _ | refine ex_drew ?_ | refine ex_alloc ?_ _))).mono ?_); rintro e w2 ⟨rfl, X, rfl⟩)
    refine wp_region_seq [(0, true), (1, true), (2, true), (3, true), (4, true), (5, true), (6, true), (7, true), (8, false), (9, true), (10, true), (11, true), (12, true), (13, true), (14, true), (15, false), (16, true), (17, true)] (by kernel_rfl) (by kernel_rfl) (fun _ _ d _ _ h => by cases d <;> exact h) ?_
    simp only [List.map_cons, List.map_nil, nth]
    repeat (first | ((with_reducible refine wpSeq_look ?_); go_big_quiet_step (fail); (with_reducible refine wpQuiet_nil ?_)) | ((with_reducible refine wpSeq_effF ?_ ?_); (focus rfl); go_simp) | ((with_reducible refine wpSeq_eff ?_ ?_); (focus rfl); (try dsimp only); go_wp2_with (fail); refine mixQ_mk (by (try show Ex _ _); with_reducible repeat (first | exact ex_refl _ | assumption | refine ex_drewL ?_ | refine ex_appR ?_ _ | refine ex_wx ?_ _ | refine ex_drew ?_ | refine ex_alloc ?_ _)) ?_))
    refine wpSeq_nil ?_
    go_wp2
    exact ret_row (cs := rowB 32 (dF x)) Tryd.results92 Tryd.underlying46 rfl info_id rfl (by simp [go_sem]) rfl (postd_ex rfl HK.out (by (try show Ex _ _); with_reducible repeat (first | exact ex_refl _ | assumption | refine ex_drewL ?_ | refine ex_appR ?_ _ | refine ex_wx ?_ _ | refine ex_drew ?_ | refine ex_alloc ?_ _)))
end Go.Proofs.YtcdocklbpfdmeaaDoor

/- Collide's document: climb. -/
set_option linter.unusedSimpArgs false
set_option linter.unusedVariables false
set_option linter.unnecessarySimpa false
set_option maxRecDepth 20000
namespace Go.Proofs.YtcdocklbpfdmeaaDoor
open Go.RowKit
theorem nod_id {w : World} {r : Nat} {cs : Array Value} {fr : Nat × Nat} (h : w.heap[r]? = some (.cells cs 46 fr)) : NoD w (fun b => b = r) := nod_type h (by decide) (by decide) (by decide)
end Go.Proofs.YtcdocklbpfdmeaaDoor

/- Collide's document: Includes, Include, SameClash. -/
set_option linter.unusedSimpArgs false
set_option linter.unusedVariables false
set_option linter.unnecessarySimpa false
set_option maxRecDepth 20000
namespace Go.Proofs.YtcdocklbpfdmeaaDoor
open Go.RowKit
theorem sameClash_any {sa sb sc sd : Value} {a b : List UInt8 × List UInt8} {w : World} (h1 : SlT w sa a.1) (h2 : SlT w sb a.2) (h3 : SlT w sc b.1) (h4 : SlT w sd b.2) :
    Calls Tryd.prog 34 #[.agg #[sa, sb], .agg #[sc, sd]] w (Post w (.bool (decide (a = b)))) := by
  have HA := Lib.hid fun w' (k : Ex w w') => sameB_any (h1.ex k) (h3.ex k)
  have HB := Lib.hid fun w' (k : Ex w w') => sameB_any (h2.ex k) (h4.ex k)
  have e : decide (a = b) = (decide (a.1 = b.1) && decide (a.2 = b.2)) := by
    obtain ⟨a1, a2⟩ := a
    obtain ⟨b1, b2⟩ := b
    rw [Bool.eq_iff_iff]
    simp
  rw [e]
  generalize decide (a.1 = b.1) = x at HA ⊢
  generalize decide (a.2 = b.2) = y at HB ⊢
  obtain ⟨_, _, rfl, _⟩ := h1.out
  obtain ⟨_, _, rfl, _⟩ := h2.out
  obtain ⟨_, _, rfl, _⟩ := h3.out
  obtain ⟨_, _, rfl, _⟩ := h4.out
  clear h1 h2 h3 h4 e
  cases x with
  | false =>
    have HA2 : Hid (∀ w', Ex w w' → Calls Tryd.prog 71 _ w' (Post w' (.bool false))) := HA
    go_enter Tryd.func34, Tryd.ntmps34
    go_wp2_with (go_at_call 71; (with_reducible refine (HA2.out _ (by (try show Ex _ _); with_reducible repeat (first | exact ex_refl _ | assumption | refine ex_drewL ?_ | refine ex_appR ?_ _ | refine ex_wx ?_ _ | refine ex_drew ?_ | refine ex_alloc ?_ _))).mono ?_); rintro e w2 ⟨rfl, X, rfl⟩)
    go_ret
    exact post_mk rfl (by (try show Ex _ _); with_reducible repeat (first | exact ex_refl _ | assumption | refine ex_drewL ?_ | refine ex_appR ?_ _ | refine ex_wx ?_ _ | refine ex_drew ?_ | refine ex_alloc ?_ _))
  | true =>
    have HA2 : Hid (∀ w', Ex w w' → Calls Tryd.prog 71 _ w' (Post w' (.bool true))) := HA
    have tok : True := trivial
    go_enter Tryd.func34, Tryd.ntmps34
    go_wp2_with (first | (go_at_call 71; have _t := tok; clear tok; (with_reducible refine (HA2.out _ (by (try show Ex _ _); with_reducible repeat (first | exact ex_refl _ | assumption | refine ex_drewL ?_ | refine ex_appR ?_ _ | refine ex_wx ?_ _ | refine ex_drew ?_ | refine ex_alloc ?_ _))).mono ?_); rintro e w2 ⟨rfl, X, rfl⟩) | (go_at_call 71; (with_reducible refine (HB.out _ (by (try show Ex _ _); with_reducible repeat (first | exact ex_refl _ | assumption | refine ex_drewL ?_ | refine ex_appR ?_ _ | refine ex_wx ?_ _ | refine ex_drew ?_ | refine ex_alloc ?_ _))).mono ?_); rintro e w2 ⟨rfl, X, rfl⟩))
    go_ret
    exact post_mk rfl (by (try show Ex _ _); with_reducible repeat (first | exact ex_refl _ | assumption | refine ex_drewL ?_ | refine ex_appR ?_ _ | refine ex_wx ?_ _ | refine ex_drew ?_ | refine ex_alloc ?_ _))
end Go.Proofs.YtcdocklbpfdmeaaDoor

/- Collide's document: Include. -/
set_option linter.unusedSimpArgs false
set_option linter.unusedVariables false
set_option linter.unnecessarySimpa false
set_option maxRecDepth 20000
namespace Go.Proofs.YtcdocklbpfdmeaaDoor
open Go.RowKit
def PostClT (w : World) (o : Cl) (e : Ending) (w' : World) : Prop := ∃ sa sb, e = .returned (.tuple #[.agg #[sa, sb], .bool o.isSome]) ∧ Ex w w' ∧ ClS w' sa sb o
theorem clr_cells {w : World} {v : Value} {x : List UInt8 × List UInt8} (h : ClR w v (some x)) : ∃ g cap sa sb, v = .slice (some ⟨g, 0, none⟩) 1 cap ∧ 1 ≤ cap ∧ cap ≤ maxLen ∧ g < w.heap.size ∧ cellsN w g 0 2 = some #[sa, sb] ∧ OwnU w sa x.1 ∧ OwnU w sb x.2 := by
  obtain ⟨sa, sb, h1, h2, h3⟩ := h
  obtain ⟨g, cap, cur, rfl, _, hg, h4, h5, h6, h7⟩ := own_block h1 (by omega) (by omega)
  refine ⟨g, cap, sa, sb, rfl, h4, h5, (Array.getElem?_eq_some_iff.1 hg).1, cellsN_some.2 ⟨rfl, fun j hj => ?_⟩, h2, h3⟩
  rw [Nat.zero_add, cell_of_row w g j _ _ _ hg]
  have : (cur.toList.take (1 * 2))[j]? = [sa, sb][j]? := by rw [h7]
  rw [List.getElem?_take_of_lt (by omega), Array.getElem?_toList] at this
  rw [this, ← List.getElem?_toArray]
theorem post_zero {w w' : World} (k : Ex w w') : PostClT w none (.returned (.tuple #[.agg #[.slice none 0 0, .slice none 0 0], .bool false])) w' := ⟨_, _, rfl, k, rfl, rfl⟩
end Go.Proofs.YtcdocklbpfdmeaaDoor

/- Collide's laws: raw, ids, leaves, claim: what can be played in time. -/
set_option linter.unusedSimpArgs false
set_option linter.unusedVariables false
set_option linter.unnecessarySimpa false
set_option maxRecDepth 20000
namespace Go.Proofs.YtcdocklbpfdmeaaDoor
open Go.RowKit
theorem SlT.take {w : World} {a : Option Addr} {n c : Nat} {l : List UInt8} (h : SlT w (.slice a n c) l) (k : Nat) (hk : k ≤ l.length) : SlT w (.slice a k c) (l.take k) := by
  obtain ⟨a', c', hv, h1, h2, h3, h4⟩ := h.out
  obtain ⟨rfl, rfl, rfl⟩ : a = a' ∧ n = l.length ∧ c = c' := by simpa using hv
  refine ⟨a, c, by rw [List.length_take, Nat.min_eq_left hk], by rw [List.length_take]; omega, h2, h3, ?_⟩
  unfold SlL at h4 ⊢
  rw [List.length_take, Nat.min_eq_left hk]
  rcases h4.out with h0 | ⟨g, off, h5, h6, h7⟩
  · obtain rfl : k = 0 := by omega
    exact SlB.zero _ _ _
  · subst h5
    refine SlB.mk' h6 fun j hj => ?_
    rw [h7 j (by omega)]
    unfold gF
    rw [List.getD_eq_getElem?_getD, List.getD_eq_getElem?_getD, List.getElem?_take, if_pos hj]
set_option maxHeartbeats 1000000 in
theorem ids_any (l : List Dg) (a : Option Addr) (c : Nat) (w : World) (hc : l.length ≤ c) (hcm : c ≤ maxLen) (ha : a = none → c = 0) (hs : SlD w a l) :
    Calls Tryd.prog 56 #[.slice a l.length c] w (PostO w (l.take 12)) := by
  unfold maxLen at hcm
  cases a with
  | none =>
    obtain rfl := ha rfl
    obtain rfl : l = [] := List.eq_nil_of_length_eq_zero (by omega)
    rw [List.take_nil, List.length_nil]
    go_enter Tryd.func56, Tryd.ntmps56
    go_wp2
    go_ret
    exact ⟨_, rfl, ownd_empty (by (try show Ex _ _); with_reducible repeat (first | exact ex_refl _ | assumption | refine ex_drewL ?_ | refine ex_appR ?_ _ | refine ex_wx ?_ _ | refine ex_drew ?_ | refine ex_alloc ?_ _)) (by simp [go_sem]) (by simp [go_sem]), (by (try show Ex _ _); with_reducible repeat (first | exact ex_refl _ | assumption | refine ex_drewL ?_ | refine ex_appR ?_ _ | refine ex_wx ?_ _ | refine ex_drew ?_ | refine ex_alloc ?_ _))⟩
  | some ad =>
    clear ha
    obtain ⟨m, hm⟩ : ∃ m, min l.length 12 = m := ⟨_, rfl⟩
    have hml : (l.take 12).length = m := by rw [List.length_take]; omega
    have hst : SlD w (some ad) (l.take 12) := hs.take 12
    generalize l.take 12 = r at hml hst ⊢
    generalize l.length = n at hc hm ⊢
    have e3 : m ≤ 12 := by omega
    have HR : Hid (m = r.length) := Lib.hid hml.symm
    clear hs hml
    by_cases hkn : 12 < n
    · obtain rfl : m = 12 := by omega
      have e2 : (12 : Int) ≤ c := by omega
      have e4 : (12 : Int) < n := by omega
      have e5 : min (n : Int) 12 = 12 := by omega
      clear hm
      go_enter Tryd.func56, Tryd.ntmps56
      go_wp2_with (at_builtin; refine wpAppS _ _ rfl rfl (ownd_empty (Z := w.heap.size) (by (try show Ex _ _); with_reducible repeat (first | exact ex_refl _ | assumption | refine ex_drewL ?_ | refine ex_appR ?_ _ | refine ex_wx ?_ _ | refine ex_drew ?_ | refine ex_alloc ?_ _)) (by simp [go_sem]) (by simp [go_sem])) rfl rfl HR.out (hst.ex (by (try show Ex _ _); with_reducible repeat (first | exact ex_refl _ | assumption | refine ex_drewL ?_ | refine ex_appR ?_ _ | refine ex_wx ?_ _ | refine ex_drew ?_ | refine ex_alloc ?_ _))) (by have := HR.out; simp; omega) (by simp [go_sem]) (fun v1 w1 hown hbe => ?_); obtain ⟨X1, rfl⟩ := exOf (A := w) (by (try show Ex _ _); with_reducible repeat (first | exact ex_refl _ | assumption | refine ex_drewL ?_ | refine ex_appR ?_ _ | refine ex_wx ?_ _ | refine ex_drew ?_ | refine ex_alloc ?_ _)) hbe)
      go_ret
      exact ⟨_, rfl, by simpa using hown, (by (try show Ex _ _); with_reducible repeat (first | exact ex_refl _ | assumption | refine ex_drewL ?_ | refine ex_appR ?_ _ | refine ex_wx ?_ _ | refine ex_drew ?_ | refine ex_alloc ?_ _))⟩
    · obtain rfl : m = n := by omega
      have e2 : (m : Int) ≤ c := by omega
      have e4 : ¬ (12 : Int) < m := by omega
      have e5 : min (m : Int) 12 = m := by omega
      clear hm
      go_enter Tryd.func56, Tryd.ntmps56
      go_wp2_with (at_builtin; refine wpAppS _ _ rfl rfl (ownd_empty (Z := w.heap.size) (by (try show Ex _ _); with_reducible repeat (first | exact ex_refl _ | assumption | refine ex_drewL ?_ | refine ex_appR ?_ _ | refine ex_wx ?_ _ | refine ex_drew ?_ | refine ex_alloc ?_ _)) (by simp [go_sem]) (by simp [go_sem])) rfl rfl HR.out (hst.ex (by (try show Ex _ _); with_reducible repeat (first | exact ex_refl _ | assumption | refine ex_drewL ?_ | refine ex_appR ?_ _ | refine ex_wx ?_ _ | refine ex_drew ?_ | refine ex_alloc ?_ _))) (by have := HR.out; simp; omega) (by simp [go_sem]) (fun v1 w1 hown hbe => ?_); obtain ⟨X1, rfl⟩ := exOf (A := w) (by (try show Ex _ _); with_reducible repeat (first | exact ex_refl _ | assumption | refine ex_drewL ?_ | refine ex_appR ?_ _ | refine ex_wx ?_ _ | refine ex_drew ?_ | refine ex_alloc ?_ _)) hbe)
      go_ret
      exact ⟨_, rfl, by simpa using hown, (by (try show Ex _ _); with_reducible repeat (first | exact ex_refl _ | assumption | refine ex_drewL ?_ | refine ex_appR ?_ _ | refine ex_wx ?_ _ | refine ex_drew ?_ | refine ex_alloc ?_ _))⟩
end Go.Proofs.YtcdocklbpfdmeaaDoor

/- Collide's laws: leaves. -/
set_option linter.unusedSimpArgs false
set_option linter.unusedVariables false
set_option linter.unnecessarySimpa false
set_option maxRecDepth 20000
namespace Go.Proofs.YtcdocklbpfdmeaaDoor
open Go.RowKit
/-- A row of byte strings of the call's own. -/
structure OwnLs (w : World) (Z : Nat) (v : Value) (l : List (List UInt8)) : Prop where
  out : ∃ vs : List Value, vs.length = l.length ∧ w.ownsRow Z 35 1 v l.length vs ∧ ∀ i (hi : i < vs.length) b, l[i]? = some b → OwnU w (vs[i]) b
theorem OwnLs.ex {w w' : World} {Z : Nat} {v : Value} {l : List (List UInt8)} (h : OwnLs w Z v l) (k : Ex w w') : OwnLs w' Z v l := by
  obtain ⟨vs, h1, h2, h3⟩ := h.out
  exact ⟨vs, h1, owns_ex h2 k, fun i hi b hb => (h3 i hi b hb).ex k⟩
theorem OwnLs.nil (w : World) (Z : Nat) : OwnLs w Z (.slice none 0 0) [] := ⟨[], rfl, owns_nil _ _ _ _, fun i hi => by simp at hi⟩
end Go.Proofs.YtcdocklbpfdmeaaDoor
