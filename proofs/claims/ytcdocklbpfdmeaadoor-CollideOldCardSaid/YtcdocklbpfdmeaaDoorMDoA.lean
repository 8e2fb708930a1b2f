import Derived.Test.YtcdocklbpfdmeaaDoorMCoQ

/- Collide's document: the clashes in memory; step. -/
set_option linter.unusedSimpArgs false
set_option linter.unusedVariables false
set_option linter.unnecessarySimpa false
set_option maxRecDepth 20000
namespace Go.Proofs.YtcdocklbpfdmeaaDoor
open Go.RowKit
/-- A row of clashes: none, or one. -/
def ClR (w : World) (v : Value) : Cl → Prop
  | none => v = .slice none 0 0
  | some x => ∃ sa sb, w.ownsRow 0 37 2 v 1 [sa, sb] ∧ OwnU w sa x.1 ∧ OwnU w sb x.2
/-- The variable that holds the clashes. -/
structure Cd (w : World) (p : Nat) (c : Cl) : Prop where
  out : ∃ v, w.heap[p]? = some (.cells #[v] 57 (0, 0)) ∧ ClR w v c
structure NoD (w : World) (F : Nat → Prop) : Prop where
  out : ∀ b cs t fr, F b → w.heap[b]? = some (.cells cs t fr) → t ≠ 5 ∧ t ≠ 57 ∧ t ≠ 37
theorem NoD.nou {w : World} {F : Nat → Prop} (h : NoD w F) : NoU w F := ⟨fun b cs fr hb h' => (h.out b cs _ fr hb h').1 rfl⟩
theorem nod_type {w : World} {r : Nat} {cs : Array Value} {t : TypeId} {fr : Nat × Nat} (h : w.heap[r]? = some (.cells cs t fr)) (h1 : t ≠ 5) (h2 : t ≠ 57) (h3 : t ≠ 37) : NoD w (fun b => b = r) := ⟨fun b cs' t fr' hb h' => by
  subst hb
  rw [h] at h'
  cases h'
  exact ⟨h1, h2, h3⟩⟩
theorem owns_frm {w w' : World} {Z : Nat} {t : TypeId} {s : Nat} {v : Value} {n : Nat} {xs : List Value} {F : Nat → Prop} (h : w.ownsRow Z t s v n xs) (hF : ∀ b cs fr, F b → w.heap[b]? ≠ some (.cells cs t fr)) (k : Frm F w w') : w'.ownsRow Z t s v n xs := by
  refine ⟨h.1, ?_⟩
  rcases h.2 with h2 | ⟨g, cap, cur, h1, h2, h3, h4⟩
  · exact Or.inl h2
  · exact Or.inr ⟨g, cap, cur, h1, h2, (k.same g (Array.getElem?_eq_some_iff.1 h3).1 fun e => hF g _ _ e h3).trans h3, h4⟩
theorem ClR.frm {w w' : World} {v : Value} {c : Cl} {F : Nat → Prop} (h : ClR w v c) (hu : NoU w F) (hF : ∀ b cs fr, F b → w.heap[b]? ≠ some (.cells cs 37 fr)) (k : Frm F w w') : ClR w' v c := by
  cases c with
  | none => exact h
  | some x =>
    obtain ⟨sa, sb, h1, h2, h3⟩ := h
    exact ⟨sa, sb, owns_frm h1 hF k, h2.frm hu k, h3.frm hu k⟩
theorem ClR.ex {w w' : World} {v : Value} {c : Cl} (h : ClR w v c) (k : Ex w w') : ClR w' v c := by
  cases c with
  | none => exact h
  | some x =>
    obtain ⟨sa, sb, h1, h2, h3⟩ := h
    exact ⟨sa, sb, owns_ex h1 k, h2.ex k, h3.ex k⟩
theorem Cd.lt {w : World} {p : Nat} {c : Cl} (h : Cd w p c) : p < w.heap.size := by
  obtain ⟨v, h1, _⟩ := h.out
  exact (Array.getElem?_eq_some_iff.1 h1).1
theorem Cd.ex {w w' : World} {p : Nat} {c : Cl} (h : Cd w p c) (k : Ex w w') : Cd w' p c := by
  obtain ⟨v, h1, h2⟩ := h.out
  exact ⟨v, ex_block k h1, h2.ex k⟩
theorem Cd.nou {w : World} {p : Nat} {c : Cl} (h : Cd w p c) : NoU w (fun b => b = p) := by
  obtain ⟨v, h1, _⟩ := h.out
  exact nou_type h1 (by decide)
theorem Cd.frm {w w' : World} {p : Nat} {c : Cl} {F : Nat → Prop} (h : Cd w p c) (hF : NoD w F) (k : Frm F w w') : Cd w' p c := by
  obtain ⟨v, h1, h2⟩ := h.out
  exact ⟨v, (k.same p (Array.getElem?_eq_some_iff.1 h1).1 fun e => (hF.out p _ _ _ e h1).2.1 rfl).trans h1, h2.frm hF.nou (fun b cs fr hb h' => (hF.out b cs _ fr hb h').2.2 rfl) k⟩
theorem Cd.new {w : World} : Cd (w.alloc (.cells #[.slice none 0 0] 57)) w.heap.size none := ⟨_, heap_alloc_new _ _, rfl⟩
theorem Cd.new' {w : World} {p : Nat} (hp : p = w.heap.size) : Cd (w.alloc (.cells #[.slice none 0 0] 57)) p none := by subst hp; exact Cd.new
theorem Cd.none_cell {w : World} {p : Nat} (h : Cd w p none) : w.heap[p]? = some (.cells #[.slice none 0 0] 57 (0, 0)) := by
  obtain ⟨v, h1, h2⟩ := h.out
  cases h2; exact h1
theorem ClR.len {w : World} {v : Value} {x : List UInt8 × List UInt8} (h : ClR w v (some x)) : ∃ g cap, v = .slice (some ⟨g, 0, none⟩) 1 cap ∧ 1 ≤ cap ∧ cap ≤ maxLen := by
  obtain ⟨sa, sb, h1, _⟩ := h
  obtain ⟨g, cap, cur, rfl, _, _, h2, h3, _⟩ := own_block h1 (by omega) (by omega)
  exact ⟨g, cap, rfl, h2, h3⟩
/-- A clash is noted. -/
theorem Cd.note {w w' : World} {p : Nat} {v' sa sb : Value} {A D : List UInt8} (h : Cd w p none) (k : Ex (w.setCell ⟨p, 0, none⟩ v') w')
    (hw : w'.ownsRow 0 37 2 v' 1 [sa, sb]) (h1 : OwnU w sa A) (h2 : OwnU w sb D) : FrP p w w' ∧ Cd w' p (some (A, D)) := by
  have f1 : FrP p w (w.setCell ⟨p, 0, none⟩ v') := (Frm.refl (fun b => b = p) w).set (b := p) rfl 0 _
  have f2 : FrP p w w' := f1.trans (Frm.ex k)
  refine ⟨f2, v', ?_, sa, sb, hw, h1.frm h.nou f2, h2.frm h.nou f2⟩
  refine ex_block k ?_
  rw [setCellF_block _ h.none_cell]
  rfl
theorem owns_tail {C C' : World} {X : More} {t : TypeId} {s : Nat} {v : Value} {n : Nat} {xs : List Value} (hs : C'.heap.size = C.heap.size) (h : (wx C X).ownsRow C.heap.size t s v n xs) : (wx C' X).ownsRow 0 t s v n xs := by
  refine ⟨h.1, ?_⟩
  rcases h.2 with h2 | ⟨g, cap, cur, h1, h2, h3, h4⟩
  · exact Or.inl h2
  · refine Or.inr ⟨g, cap, cur, h1, Nat.zero_le _, ?_, h4⟩
    have e1 := wx_heap_more C X (g - C.heap.size)
    have e2 := wx_heap_more C' X (g - C.heap.size)
    rw [show C.heap.size + (g - C.heap.size) = g by omega] at e1
    rw [hs, show C.heap.size + (g - C.heap.size) = g by omega] at e2
    rw [e2, ← e1, h3]
def PostD (p : Nat) (w : World) (v : Value) (c : Cl) (e : Ending) (w' : World) : Prop := e = .returned v ∧ FrP p w w' ∧ Cd w' p c
theorem postd_ex {p : Nat} {w w' : World} {v : Value} {c : Cl} {e : Ending} (he : e = .returned v) (h : Cd w p c) (k : Ex w w') : PostD p w v c e w' := ⟨he, Frm.ex k, h.ex k⟩
theorem appClash : AppT Tryd.prog 57 37 2 48 (.agg #[.slice none 0 0, .slice none 0 0]) := ⟨Tryd.underlying57, by kernel_rfl, by simp [Value.cells], by decide⟩
theorem wpList_world {P : Program} {ops : Array Oper} {Q : Exit → Act → World → Prop} {l : List Oper} {a : Act} {w : World} (h : ∀ w8, w = w8 → wpList P ops Q l a w8) : wpList P ops Q l a w := h w rfl
set_option maxHeartbeats 1000000 in
theorem step_any (W : Nat) (hW : W ≤ 256) {p : Nat} {c : Cl} {v u : Value} {A D : List UInt8} {w : World} (hk : Cd w p c) (hv : OwnU w v A) (hu : OwnU w u D) (hA : A.length ≤ 1000000) (hD : D.length ≤ 1000000) :
    Calls Tryd.prog 92 #[I W, v, u, .pointer (some ⟨p, 0, none⟩)] w (PostD p w (.agg (rowB 32 (dF (putC (sumW W) A D c).1))) (putC (sumW W) A D c).2) := by
  have HS : Hid (∀ w', Ex w w' → Calls Tryd.prog 26 #[I W, v] w' (Post w' (.agg (rowB 32 (dF (sumW W A)))))) := Lib.hid fun w' k => digest_any W hW (hv.slt.ex k) hA
  have HT : Hid (∀ w', Ex w w' → Calls Tryd.prog 26 #[I W, u] w' (Post w' (.agg (rowB 32 (dF (sumW W D)))))) := Lib.hid fun w' k => digest_any W hW (hu.slt.ex k) hD
  have HE : Hid (∀ w', Ex w w' → Calls Tryd.prog 71 #[v, u] w' (Post w' (.bool (decide (A = D))))) := Lib.hid fun w' k => sameB_any (hv.slt.ex k) (hu.slt.ex k)
  have hlt := hk.lt
  have HK := Lib.hid hk
  obtain ⟨va, vc, rfl, _⟩ := hv.slt.out
  obtain ⟨ua, uc, rfl, _⟩ := hu.slt.out
  have HV := Lib.hid hv
  have HU := Lib.hid hu
  have H1 : Hid ((putC (sumW W) A D c).1 = sumW W A) := Lib.hid rfl
  rw [H1.out]
  by_cases hc : c = none
  · subst hc
    obtain ⟨hw1, hf1⟩ := block_cellF (o := 0) (v := .slice none 0 0) hk.none_cell rfl
    by_cases hAD : A = D
    · have H2 : Hid ((putC (sumW W) A D none).2 = none) := Lib.hid (by unfold putC; rw [if_neg (by simp [hAD])])
      rw [H2.out]
      rw [decide_eq_true hAD] at HE
      generalize sumW W A = x at HS ⊢
      clear hk hv hu hAD H1 H2 HT
      go_enter Tryd.func92, Tryd.ntmps92
      go_wp2_with (go_at_call 26; (with_reducible refine (HS.out _ (by (try show Ex _ _); repeat (first | (with_reducible exact ex_refl _) | (with_reducible assumption) | (with_reducible refine ex_drewL ?_) | (with_reducible refine ex_appR ?_ _) | (with_reducible refine ex_wx ?_ _) | (with_reducible refine ex_drew ?_) | (with_reducible refine ex_alloc ?_ _)))).mono ?_); rintro e w2 ⟨rfl, X, rfl⟩)
      refine wp_region_seq [(0, true), (1, true), (2, true), (3, true), (4, true), (5, true), (6, true), (7, true), (8, false), (9, true), (10, true), (11, true), (12, true), (13, true), (14, true), (15, false), (16, true), (17, true)] (by kernel_rfl) (by kernel_rfl) (fun _ _ d _ _ h => by cases d <;> exact h) ?_
      simp only [List.map_cons, List.map_nil, nth]
      repeat (first | ((with_reducible refine wpSeq_look ?_); go_big_quiet_step (fail); (with_reducible refine wpQuiet_nil ?_)) | ((with_reducible refine wpSeq_effF ?_ ?_); (focus rfl); go_simp) | ((with_reducible refine wpSeq_eff ?_ ?_); (focus rfl); (try dsimp only); go_wp2_with (first | (go_at_call 71; (with_reducible refine (HE.out _ (by (try show Ex _ _); repeat (first | (with_reducible exact ex_refl _) | (with_reducible assumption) | (with_reducible refine ex_drewL ?_) | (with_reducible refine ex_appR ?_ _) | (with_reducible refine ex_wx ?_ _) | (with_reducible refine ex_drew ?_) | (with_reducible refine ex_alloc ?_ _)))).mono ?_); rintro e w2 ⟨rfl, X, rfl⟩)); refine mixQ_mk (by (try show Ex _ _); repeat (first | (with_reducible exact ex_refl _) | (with_reducible assumption) | (with_reducible refine ex_drewL ?_) | (with_reducible refine ex_appR ?_ _) | (with_reducible refine ex_wx ?_ _) | (with_reducible refine ex_drew ?_) | (with_reducible refine ex_alloc ?_ _))) ?_))
      refine wpSeq_nil ?_
      go_wp2
      exact ret_row (cs := rowB 32 (dF x)) Tryd.results92 Tryd.underlying46 rfl info_id rfl (by simp [go_sem]) rfl (postd_ex rfl HK.out (by (try show Ex _ _); repeat (first | (with_reducible exact ex_refl _) | (with_reducible assumption) | (with_reducible refine ex_drewL ?_) | (with_reducible refine ex_appR ?_ _) | (with_reducible refine ex_wx ?_ _) | (with_reducible refine ex_drew ?_) | (with_reducible refine ex_alloc ?_ _))))
    · rw [decide_eq_false hAD] at HE
      have he := eqD (sumW W A) (sumW W D)
      by_cases hSS : sumW W A = sumW W D
      · have H2 : Hid ((putC (sumW W) A D none).2 = some (A, D)) := Lib.hid (by unfold putC; rw [if_pos ⟨rfl, hAD, hSS⟩])
        rw [H2.out]
        rw [decide_eq_true hSS] at he
        generalize sumW W A = x at HS he ⊢
        generalize sumW W D = y at HT he
        clear hk hv hu hAD H1 H2 hSS
        go_enter Tryd.func92, Tryd.ntmps92
        go_wp2_with (go_at_call 26; (with_reducible refine (HS.out _ (by (try show Ex _ _); repeat (first | (with_reducible exact ex_refl _) | (with_reducible assumption) | (with_reducible refine ex_drewL ?_) | (with_reducible refine ex_appR ?_ _) | (with_reducible refine ex_wx ?_ _) | (with_reducible refine ex_drew ?_) | (with_reducible refine ex_alloc ?_ _)))).mono ?_); rintro e w2 ⟨rfl, XA, rfl⟩)
        refine wp_region_seq [(0, true), (1, true), (2, true), (3, true), (4, true), (5, true), (6, true), (7, true), (8, false), (9, true), (10, true), (11, true), (12, true), (13, true), (14, true), (15, false), (16, true), (17, true)] (by kernel_rfl) (by kernel_rfl) (fun _ _ d _ _ h => by cases d <;> exact h) ?_
        simp only [List.map_cons, List.map_nil, nth]
        repeat (first | ((with_reducible refine wpSeq_look ?_); go_big_quiet_step (fail); (with_reducible refine wpQuiet_nil ?_)) | ((with_reducible refine wpSeq_effF ?_ ?_); (focus rfl); go_simp) | ((with_reducible refine wpSeq_eff ?_ ?_); (focus rfl); (try dsimp only); go_wp2_with (first | (go_at_call 71; (with_reducible refine (HE.out _ (by (try show Ex _ _); repeat (first | (with_reducible exact ex_refl _) | (with_reducible assumption) | (with_reducible refine ex_drewL ?_) | (with_reducible refine ex_appR ?_ _) | (with_reducible refine ex_wx ?_ _) | (with_reducible refine ex_drew ?_) | (with_reducible refine ex_alloc ?_ _)))).mono ?_); rintro e w2 ⟨rfl, XB, rfl⟩) | (go_at_call 26; (with_reducible refine (HT.out _ (by (try show Ex _ _); repeat (first | (with_reducible exact ex_refl _) | (with_reducible assumption) | (with_reducible refine ex_drewL ?_) | (with_reducible refine ex_appR ?_ _) | (with_reducible refine ex_wx ?_ _) | (with_reducible refine ex_drew ?_) | (with_reducible refine ex_alloc ?_ _)))).mono ?_); rintro e w2 ⟨rfl, XC, rfl⟩)); refine mixQ_mk (by (try show Ex _ _); repeat (first | (with_reducible exact ex_refl _) | (with_reducible assumption) | (with_reducible refine ex_drewL ?_) | (with_reducible refine ex_appR ?_ _) | (with_reducible refine ex_wx ?_ _) | (with_reducible refine ex_drew ?_) | (with_reducible refine ex_alloc ?_ _))) ?_))
        refine wpSeq_nil ?_
        have HC := Lib.hid (fun (XX : More) => news_alloc (w := wx ((wx (w.alloc (.cells (rowB 32 fun _ => 0) 46)) XA).alloc (.cells (rowB 32 (dF x)) 46)) XX) (cs := #[.slice va A.length vc, .slice ua D.length uc]) (e := 37) rfl (ex_refl _))
        go_wp2_with (at_builtin; refine wpApp appClash _ _ rfl rfl (owns_nil _ ((wx ((wx (w.alloc (.cells (rowB 32 fun _ => 0) 46)) XA).alloc (.cells (rowB 32 (dF x)) 46)) (XB.app XC)).alloc (.cells #[.slice va A.length vc, .slice ua D.length uc] 37)).heap.size 37 2) rfl ⟨w.heap.size + 1 + XA.blocks.length + 1 + (XB.blocks.length + XC.blocks.length), 0, none⟩ 1 1 [.slice va A.length vc, .slice ua D.length uc] rfl rfl (by have := HC.out (XB.app XC); simpa [go_sem] using this) (by intro u hu; simp at hu; rcases hu with rfl | rfl <;> rfl) (by decide) (by decide) (Nat.le_refl _) (fun v1 w1 hown hbe => ?_); obtain ⟨X9, rfl⟩ := exOf (ex_refl _) hbe; simp only [Nat.zero_add, List.nil_append] at hown; obtain ⟨g9, cap9, cur9, rfl, hg9, _⟩ := own_block hown (by omega) (by omega); replace hown := Lib.hid hown; replace hg9 := Lib.hid hg9; clear hbe)
        all_goals first | (exfalso; omega) | exact ret_row (cs := rowB 32 (dF x)) Tryd.results92 Tryd.underlying46 rfl info_id rfl (by simp [go_sem] <;> (repeat (first | rw [if_pos (by omega)] | rw [if_neg (by omega)]))) rfl ⟨rfl, HK.out.note (by (try show Ex _ _); repeat (first | (with_reducible exact ex_refl _) | (with_reducible assumption) | (with_reducible refine ex_drewL ?_) | (with_reducible refine ex_appR ?_ _) | (with_reducible refine ex_wx ?_ _) | (with_reducible refine ex_drew ?_) | (with_reducible refine ex_alloc ?_ _))) (owns_tail (by simp [go_sem]) hown.out) HV.out HU.out⟩
      · have H2 : Hid ((putC (sumW W) A D none).2 = none) := Lib.hid (by unfold putC; rw [if_neg (by simp [hSS])])
        rw [H2.out]
        rw [decide_eq_false hSS] at he
        generalize sumW W A = x at HS he ⊢
        generalize sumW W D = y at HT he
        clear hk hv hu hAD H1 H2 hSS
        go_enter Tryd.func92, Tryd.ntmps92
        go_wp2_with (go_at_call 26; (with_reducible refine (HS.out _ (by (try show Ex _ _); repeat (first | (with_reducible exact ex_refl _) | (with_reducible assumption) | (with_reducible refine ex_drewL ?_) | (with_reducible refine ex_appR ?_ _) | (with_reducible refine ex_wx ?_ _) | (with_reducible refine ex_drew ?_) | (with_reducible refine ex_alloc ?_ _)))).mono ?_); rintro e w2 ⟨rfl, X, rfl⟩)
        refine wp_region_seq [(0, true), (1, true), (2, true), (3, true), (4, true), (5, true), (6, true), (7, true), (8, false), (9, true), (10, true), (11, true), (12, true), (13, true), (14, true), (15, false), (16, true), (17, true)] (by kernel_rfl) (by kernel_rfl) (fun _ _ d _ _ h => by cases d <;> exact h) ?_
        simp only [List.map_cons, List.map_nil, nth]
        repeat (first | ((with_reducible refine wpSeq_look ?_); go_big_quiet_step (fail); (with_reducible refine wpQuiet_nil ?_)) | ((with_reducible refine wpSeq_effF ?_ ?_); (focus rfl); go_simp) | ((with_reducible refine wpSeq_eff ?_ ?_); (focus rfl); (try dsimp only); go_wp2_with (first | (go_at_call 71; (with_reducible refine (HE.out _ (by (try show Ex _ _); repeat (first | (with_reducible exact ex_refl _) | (with_reducible assumption) | (with_reducible refine ex_drewL ?_) | (with_reducible refine ex_appR ?_ _) | (with_reducible refine ex_wx ?_ _) | (with_reducible refine ex_drew ?_) | (with_reducible refine ex_alloc ?_ _)))).mono ?_); rintro e w2 ⟨rfl, X, rfl⟩) | (go_at_call 26; (with_reducible refine (HT.out _ (by (try show Ex _ _); repeat (first | (with_reducible exact ex_refl _) | (with_reducible assumption) | (with_reducible refine ex_drewL ?_) | (with_reducible refine ex_appR ?_ _) | (with_reducible refine ex_wx ?_ _) | (with_reducible refine ex_drew ?_) | (with_reducible refine ex_alloc ?_ _)))).mono ?_); rintro e w2 ⟨rfl, X, rfl⟩)); refine mixQ_mk (by (try show Ex _ _); repeat (first | (with_reducible exact ex_refl _) | (with_reducible assumption) | (with_reducible refine ex_drewL ?_) | (with_reducible refine ex_appR ?_ _) | (with_reducible refine ex_wx ?_ _) | (with_reducible refine ex_drew ?_) | (with_reducible refine ex_alloc ?_ _))) ?_))
        refine wpSeq_nil ?_
        go_wp2
        exact ret_row (cs := rowB 32 (dF x)) Tryd.results92 Tryd.underlying46 rfl info_id rfl (by simp [go_sem]) rfl (postd_ex rfl HK.out (by (try show Ex _ _); repeat (first | (with_reducible exact ex_refl _) | (with_reducible assumption) | (with_reducible refine ex_drewL ?_) | (with_reducible refine ex_appR ?_ _) | (with_reducible refine ex_wx ?_ _) | (with_reducible refine ex_drew ?_) | (with_reducible refine ex_alloc ?_ _))))
  · obtain ⟨y, rfl⟩ : ∃ y, c = some y := Option.ne_none_iff_exists'.1 hc
    obtain ⟨cv, hcb, hcr⟩ := hk.out
    obtain ⟨q, cap, rfl, _, _⟩ := hcr.len
    have hw1 := (block_cellF (o := 0) (v := .slice (some ⟨q, 0, none⟩) 1 cap) hcb rfl).1
    have H2 : Hid ((putC (sumW W) A D (some y)).2 = some y) := Lib.hid (by unfold putC; rw [if_neg (by simp)])
    rw [H2.out]
    generalize sumW W A = x at HS ⊢
    clear hk hv hu H1 H2 HT HE hcb hcr hc
    go_enter Tryd.func92, Tryd.ntmps92
    go_wp2_with (go_at_call 26; (with_reducible refine (HS.out _ (by (try show Ex _ _); repeat (first | (with_reducible exact ex_refl _) | (with_reducible assumption) | (with_reducible refine ex_drewL ?_) | (with_reducible refine ex_appR ?_ _) | (with_reducible refine ex_wx ?_ _) | (with_reducible refine ex_drew ?_) | (with_reducible refine ex_alloc ?_ _)))).mono ?_); rintro e w2 ⟨rfl, X, rfl⟩)
    refine wp_region_seq [(0, true), (1, true), (2, true), (3, true), (4, true), (5, true), (6, true), (7, true), (8, false), (9, true), (10, true), (11, true), (12, true), (13, true), (14, true), (15, false), (16, true), (17, true)] (by kernel_rfl) (by kernel_rfl) (fun _ _ d _ _ h => by cases d <;> exact h) ?_
    simp only [List.map_cons, List.map_nil, nth]
    repeat (first | ((with_reducible refine wpSeq_look ?_); go_big_quiet_step (fail); (with_reducible refine wpQuiet_nil ?_)) | ((with_reducible refine wpSeq_effF ?_ ?_); (focus rfl); go_simp) | ((with_reducible refine wpSeq_eff ?_ ?_); (focus rfl); (try dsimp only); go_wp2_with (fail); refine mixQ_mk (by (try show Ex _ _); repeat (first | (with_reducible exact ex_refl _) | (with_reducible assumption) | (with_reducible refine ex_drewL ?_) | (with_reducible refine ex_appR ?_ _) | (with_reducible refine ex_wx ?_ _) | (with_reducible refine ex_drew ?_) | (with_reducible refine ex_alloc ?_ _))) ?_))
    refine wpSeq_nil ?_
    go_wp2
    exact ret_row (cs := rowB 32 (dF x)) Tryd.results92 Tryd.underlying46 rfl info_id rfl (by simp [go_sem]) rfl (postd_ex rfl HK.out (by (try show Ex _ _); repeat (first | (with_reducible exact ex_refl _) | (with_reducible assumption) | (with_reducible refine ex_drewL ?_) | (with_reducible refine ex_appR ?_ _) | (with_reducible refine ex_wx ?_ _) | (with_reducible refine ex_drew ?_) | (with_reducible refine ex_alloc ?_ _))))
end Go.Proofs.YtcdocklbpfdmeaaDoor

/- Collide's document: climb. -/
set_option linter.unusedSimpArgs false
set_option linter.unusedVariables false
set_option linter.unnecessarySimpa false
set_option maxRecDepth 20000
namespace Go.Proofs.YtcdocklbpfdmeaaDoor
open Go.RowKit
def PostDO (p : Nat) (w : World) (o : Option (Dg × Cl)) (e : Ending) (w' : World) : Prop := ∃ x c', e = .returned (.tuple #[.agg (rowB 32 (dF x)), .bool o.isSome]) ∧ FrP p w w' ∧ Cd w' p c' ∧ ∀ y, o = some y → y = (x, c')
theorem nod_id {w : World} {r : Nat} {cs : Array Value} {fr : Nat × Nat} (h : w.heap[r]? = some (.cells cs 46 fr)) : NoD w (fun b => b = r) := nod_type h (by decide) (by decide) (by decide)
theorem k_endD {p r : Nat} {w A w5 : World} {c : Cl} {g : Nat → UInt8} (hrw : w.heap.size ≤ r) (hr : A.heap[r]? = some (.cells (rowB 32 g) 46 (0, 0))) (kw : Ex w A) (F5 : FrP p A w5) (K5 : Cd w5 p c) (hne : r ≠ p) :
    (cellsN w5 r 0 32 = some (rowB 32 g) ∧ frozenN w5 r 0 32 = false ∧ r < w5.heap.size) ∧
    ∀ x : Dg, cellsN (w5.setCells r 0 (rowB 32 (dF x)).toList) r 0 32 = some (rowB 32 (dF x)) ∧ FrP p w (w5.setCells r 0 (rowB 32 (dF x)).toList) ∧ Cd (w5.setCells r 0 (rowB 32 (dF x)).toList) p c := by
  have h5 := row_frm hr F5 hne
  refine ⟨block_cellsF h5 (by simp), fun x => ⟨?_, ?_, K5.frm (nod_id h5) (frm_sets 0 _)⟩⟩
  · have h6 := setCells_block r 46 (0, 0) (rowB 32 (dF x)).toList 0 w5 _ h5
    rw [spliceA_all _ _ (by simp)] at h6
    exact (block_cellsF h6 (by simp)).1
  · have f := (Frm.ex kw : FrP p w A).trans F5
    refine ⟨?_, ?_, ?_, ?_, fun b hb hn => ?_⟩
    · exact (frm_sets (r := r) 0 _).os.trans f.os
    · exact (frm_sets (r := r) 0 _).tape.trans f.tape
    · exact (frm_sets (r := r) 0 _).output.trans f.output
    · exact Nat.le_trans f.size (frm_sets (r := r) 0 _).size
    · exact ((frm_sets (r := r) 0 _).same b (Nat.lt_of_lt_of_le hb f.size) (by omega)).trans (f.same b hb hn)
set_option maxHeartbeats 1000000 in
theorem dclimb1_any {A : World} (W : Nat) (hW : W ≤ 256) {p : Nat} (hp : A.heap.size ≤ p) {b x : List UInt8} (hb : b.length ≤ 90) (hx : x.length ≤ 90) {bv : Value} (hbv : SlT A bv b) {la : Option Addr} {lc : Nat} (hls : SlLs A la [x]) (hlc : 1 ≤ lc) (hlm : lc ≤ maxLen)
    (i : Int) (path : List Dg) (pa : Option Addr) (pc : Nat) (c : Cl) (w : World) (kA : Ex A w) (hk : Cd w p c) :
    Calls Tryd.prog 72 #[I W, .slice la 1 lc, I i, bv, .slice pa path.length pc, .pointer (some ⟨p, 0, none⟩)] w (PostDO p w (if path = [] then some (putC (sumW W) (zL b) (zL x) c) else none)) := by
  unfold maxLen at hlm
  obtain ⟨g, off, rfl, hg, hcell⟩ := hls.pos (by simp)
  obtain ⟨xv, h1, hxv⟩ := hcell 0 x rfl
  rw [Nat.add_zero] at h1
  have HL1 : Hid (∀ w', Ex A w' → Calls Tryd.prog 79 #[bv] w' (PostU w' (zL b))) := Lib.hid fun w' k => refleafB_any (by omega) w' (hbv.ex k)
  have HL2 : Hid (∀ w', Ex A w' → Calls Tryd.prog 79 #[xv] w' (PostU w' (zL x))) := Lib.hid fun w' k => refleafB_any (by omega) w' (hxv.ex k)
  have HP : Hid (∀ w' v u, Ex w w' → OwnU w' v (zL b) → OwnU w' u (zL x) → Calls Tryd.prog 92 #[I W, v, u, .pointer (some ⟨p, 0, none⟩)] w' (PostD p w' (.agg (rowB 32 (dF (putC (sumW W) (zL b) (zL x) c).1))) (putC (sumW W) (zL b) (zL x) c).2)) :=
    Lib.hid fun w' v u k h1 h2 => step_any W hW (hk.ex k) h1 h2 (by unfold zL; simp; omega) (by unfold zL; simp; omega)
  have hpw := hk.lt
  obtain ⟨P, hP⟩ : ∃ P : Nat → Prop, P = fun k => k = p ∨ k = w.heap.size := ⟨_, rfl⟩
  have hgp : ¬ P g := by rw [hP]; have := ex_size kA; rintro (e | e) <;> omega
  have SQ : Hid (∀ w5, FrP p (w.alloc (.cells (rowB 32 fun _ => 0) 46)) w5 → Frm P (w.alloc (.cells (rowB 32 fun _ => 0) 46)) w5) := Lib.hid fun w5 F => F.mono fun b e => by rw [hP]; exact Or.inl e
  have SP : Hid (∀ w5, FrP p (w.alloc (.cells (rowB 32 fun _ => 0) 46)) w5 → ∀ vs, Frm P (w.alloc (.cells (rowB 32 fun _ => 0) 46)) (w5.setCells w.heap.size 0 vs)) := Lib.hid fun w5 F vs => (SQ.out w5 F).sets (b := w.heap.size) (by rw [hP]; exact Or.inr rfl) 0 vs
  have HE := Lib.hid (fun w5 c5 => k_endD (p := p) (r := w.heap.size) (w := w) (A := w.alloc (.cells (rowB 32 fun _ => 0) 46)) (w5 := w5) (c := c5) (Nat.le_refl _) (heap_alloc_new _ _) (ex_alloc (ex_refl _) _))
  have hgw : w.cell? ⟨g, off, none⟩ = some xv := by obtain ⟨X, rfl⟩ := kA; rw [wx_cell A X _ hg]; exact h1
  have hgz : g < w.heap.size := Nat.lt_of_lt_of_le hg (ex_size kA)
  have hxo : xv.oneCell' = true := by obtain ⟨_, _, rfl, _⟩ := hxv.out; rfl
  have hdp : ((path.length : Int) == 0) = decide (path = []) := by cases path <;> simp <;> omega
  have HQ : Hid (∀ y, (if path = [] then some (putC (sumW W) (zL b) (zL x) c) else none) = some y → y = putC (sumW W) (zL b) (zL x) c) := Lib.hid fun y h => by
    split at h
    · exact (Option.some.inj h).symm
    · cases h
  have hsm : (if path = [] then some (putC (sumW W) (zL b) (zL x) c) else none).isSome = decide (path = []) := by split <;> simp_all
  unfold PostDO
  rw [hsm]
  generalize decide (path = []) = bb at hdp ⊢
  generalize (if path = [] then some (putC (sumW W) (zL b) (zL x) c) else none) = o at HQ ⊢
  generalize putC (sumW W) (zL b) (zL x) c = z at HP HQ
  obtain ⟨z, c'⟩ := z
  simp only at HP
  generalize path.length = n at *
  clear hcell hls hk hP hbv hxv h1 hsm
  go_enter Tryd.func72, Tryd.ntmps72
  go_wp2
  have tok : True := trivial
  refine wp_region_forkH (fun w' => ∃ X, w' = kp (w.alloc (.cells (rowB 32 fun _ => 0) 46)) P X) (.look 0 (.look 1 (.look 3 (.look 4 (.look 5 (.look 7 (.look 9 (.look 10 (.look 11 (.eff 2 (.eff 6 (.eff 8 (.eff 12 (.look 13 .done)))))))))))))) (⟨_, kp_of (fun _ _ _ => rfl)⟩) (by kernel_rfl) (by kernel_rfl) (fun _ _ d _ _ h => by cases d <;> exact h) ?_
  simp only [Fk.ops, nth]
  repeat (first | ((with_reducible refine wpForkH_look ?_); go_big_quiet_step (fail); (try (with_reducible refine wpQuiet_nil ?_))) | (with_reducible refine wpForkH_eff ?_) | ((with_reducible refine effH_F ?_ ?_); (focus rfl); go_simp) | ((with_reducible refine effH_T ?_ ?_); (focus rfl); (try dsimp only); go_wp2_with (first | (go_at_call 79; have _t := tok; clear tok; (with_reducible refine (HL1.out _ (by (try show Ex _ _); repeat (first | (with_reducible exact ex_refl _) | (with_reducible assumption) | (with_reducible refine ex_drewL ?_) | (with_reducible refine ex_appR ?_ _) | (with_reducible refine ex_wx ?_ _) | (with_reducible refine ex_drew ?_) | (with_reducible refine ex_alloc ?_ _)))).mono ?_); rintro e w2 ⟨v1, rfl, hv1, X, rfl⟩; (try simp only [wx_wx, wx_drew] at hv1)) | (go_at_call 79; (with_reducible refine (HL2.out _ (by (try show Ex _ _); repeat (first | (with_reducible exact ex_refl _) | (with_reducible assumption) | (with_reducible refine ex_drewL ?_) | (with_reducible refine ex_appR ?_ _) | (with_reducible refine ex_wx ?_ _) | (with_reducible refine ex_drew ?_) | (with_reducible refine ex_alloc ?_ _)))).mono ?_); rintro e w2 ⟨v2, rfl, hv2, X, rfl⟩; (try simp only [wx_wx, wx_drew] at hv2)) | (go_at_call 92; (with_reducible refine (HP.out _ _ _ (by (try show Ex _ _); repeat (first | (with_reducible exact ex_refl _) | (with_reducible assumption) | (with_reducible refine ex_drewL ?_) | (with_reducible refine ex_appR ?_ _) | (with_reducible refine ex_wx ?_ _) | (with_reducible refine ex_drew ?_) | (with_reducible refine ex_alloc ?_ _))) (OwnU.ex hv1 (by (try show Ex _ _); repeat (first | (with_reducible exact ex_refl _) | (with_reducible assumption) | (with_reducible refine ex_drewL ?_) | (with_reducible refine ex_appR ?_ _) | (with_reducible refine ex_wx ?_ _) | (with_reducible refine ex_drew ?_) | (with_reducible refine ex_alloc ?_ _)))) (OwnU.ex hv2 (by (try show Ex _ _); repeat (first | (with_reducible exact ex_refl _) | (with_reducible assumption) | (with_reducible refine ex_drewL ?_) | (with_reducible refine ex_appR ?_ _) | (with_reducible refine ex_wx ?_ _) | (with_reducible refine ex_drew ?_) | (with_reducible refine ex_alloc ?_ _))))).mono ?_); rintro e w5 ⟨rfl, F5', K5⟩; have F5 : FrP p (w.alloc (.cells (rowB 32 fun _ => 0) 46)) w5 := (Frm.ex (by (try show Ex _ _); repeat (first | (with_reducible exact ex_refl _) | (with_reducible assumption) | (with_reducible refine ex_drewL ?_) | (with_reducible refine ex_appR ?_ _) | (with_reducible refine ex_wx ?_ _) | (with_reducible refine ex_drew ?_) | (with_reducible refine ex_alloc ?_ _)))).trans F5'; obtain ⟨⟨n5, f5, z5⟩, HX⟩ := HE.out w5 _ F5 K5 (Nat.ne_of_gt hpw); replace HX := Lib.hid HX)); (first | done | refine mixQH_mk (⟨_, kpF (by first | exact SP.out _ F5 _ | exact SQ.out _ F5 | exact Frm.ex (by (try show Ex _ _); repeat (first | (with_reducible exact ex_refl _) | (with_reducible assumption) | (with_reducible refine ex_drewL ?_) | (with_reducible refine ex_appR ?_ _) | (with_reducible refine ex_wx ?_ _) | (with_reducible refine ex_drew ?_) | (with_reducible refine ex_alloc ?_ _))))⟩) ?_)))
  all_goals (with_reducible refine wpForkH_nil ?_)
  go_wp2
  obtain ⟨x1, x2, x3⟩ := HX.out z
  exact ret_rowV Tryd.results72 Tryd.underlying46 rfl info_id rfl x1 rfl rfl ⟨z, c', rfl, x2, x3, HQ.out⟩
set_option maxHeartbeats 1000000 in
theorem dclimb_any {A : World} (W : Nat) (hW : W ≤ 256) {p : Nat} (hp : A.heap.size ≤ p) {b : List UInt8} (hb : b.length ≤ 90) {bv : Value} (hbv : SlT A bv b) (N : Nat) : ∀ (l : List (List UInt8)) (la : Option Addr) (lc : Nat) (i : Nat) (path : List Dg) (pa : Option Addr) (pc : Nat) (c : Cl) (w : World),
    l.length = N → 1 ≤ N → N ≤ 1024 → N ≤ lc → lc ≤ maxLen → SlLs A la l → ShortL l → i < N → path.length ≤ pc → pc ≤ maxLen → SlD A pa path → Ex A w → Cd w p c →
    Calls Tryd.prog 72 #[I W, .slice la N lc, I i, bv, .slice pa path.length pc, .pointer (some ⟨p, 0, none⟩)] w (PostDO p w (climbC (sumW W) l i b path c)) := by
  induction N using Nat.strongRecOn with
  | ind N ih =>
    intro l la lc i path pa pc c w hl hN1 hN hlc hlm hls hsh hi hpc hpm hpath kA hk
    rcases Nat.lt_or_ge N 2 with h2 | h2
    · obtain rfl : N = 1 := by omega
      obtain ⟨x, rfl⟩ := List.length_eq_one_iff.1 hl
      rw [climbC_one (by simp)]
      exact dclimb1_any W hW hp hb (hsh x (by simp)) hbv hls hlc hlm i path pa pc c w kA hk
    · have hk1 := split_lt (n := N) h2
      have hk2 := split_pos N
      have hpw := hk.lt
      have e0 : ((N : Int) == 1) = false := beq_eq_false_iff_ne.2 (by omega)
      rcases snoc_cases path with rfl | ⟨r, y, rfl⟩
      · rw [climbC_nil (by omega)]
        have HK := Lib.hid hk
        clear ih hk hls hbv hpath
        go_enter Tryd.func72, Tryd.ntmps72
        go_wp2
        exact ret_rowV (cs := rowB 32 fun _ => 0) Tryd.results72 Tryd.underlying46 rfl info_id rfl (by simp [go_sem]) rfl rfl ⟨zeroD, c, by rw [row_zeroC]; rfl, Frm.ex (by (try show Ex _ _); repeat (first | (with_reducible exact ex_refl _) | (with_reducible assumption) | (with_reducible refine ex_drewL ?_) | (with_reducible refine ex_appR ?_ _) | (with_reducible refine ex_wx ?_ _) | (with_reducible refine ex_drew ?_) | (with_reducible refine ex_alloc ?_ _))), HK.out.ex (by (try show Ex _ _); repeat (first | (with_reducible exact ex_refl _) | (with_reducible assumption) | (with_reducible refine ex_drewL ?_) | (with_reducible refine ex_appR ?_ _) | (with_reducible refine ex_wx ?_ _) | (with_reducible refine ex_drew ?_) | (with_reducible refine ex_alloc ?_ _))), fun y h => by cases h⟩
      · have hrl : (r ++ [y]).length = r.length + 1 := by simp
        rw [hrl] at hpc ⊢
        obtain ⟨g, off, rfl, hg, hcell⟩ := hls.pos (by omega)
        clear hcell
        obtain ⟨g2, off2, rfl, hg2, hcell2⟩ := hpath.pos (by simp)
        have hpl := (hpath.ex kA).at (i := r.length) (d := y) (by simp)
        clear hcell2
        have hpl1 := hpl.1
        have hpl2 := hpl.2
        clear hpl
        have hpn : ((r.length : Int) + 1 == 0) = false := beq_eq_false_iff_ne.2 (by omega)
        have HSp := Lib.hid (fun w => refsplit_at N w h2 hN)
        have HT : Hid (∀ w', Ex A w' → Calls Tryd.prog 44 #[I W, .slice (some ⟨g, off, none⟩) (splitN N) lc] w' (Post w' (.agg (rowB 32 (dF (rootC (sumW W) (l.take (splitN N)))))))) := Lib.hid fun w' k => by
          have := refrootN_any W hW (splitN N) (l.take (splitN N)) (some ⟨g, off, none⟩) lc w' (by rw [List.length_take]; omega) (by omega) (by omega) hlm ((hls.take _).ex k) (fun b hb => hsh b (List.mem_of_mem_take hb))
          rwa [← rootC_top] at this
        have HD : Hid (∀ w', Ex A w' → Calls Tryd.prog 44 #[I W, .slice (some ⟨g, off + splitN N, none⟩) (N - splitN N) (lc - splitN N)] w' (Post w' (.agg (rowB 32 (dF (rootC (sumW W) (l.drop (splitN N)))))))) := Lib.hid fun w' k => by
          have := refrootN_any W hW (N - splitN N) (l.drop (splitN N)) (some ⟨g, off + splitN N, none⟩) (lc - splitN N) w' (by rw [List.length_drop]; omega) (by omega) (by omega) (by omega) ((hls.drop _).ex k) (fun b hb => hsh b (List.mem_of_mem_drop hb))
          rwa [← rootC_top] at this
        have H2 := Lib.hid (fun a b w => reftwo_any a b w)
        have HP : Hid (∀ x y' rT rD c1 w' v u, Cd w' p c1 → OwnU w' v (twoL x y') → OwnU w' u (twoL rT rD) → Calls Tryd.prog 92 #[I W, v, u, .pointer (some ⟨p, 0, none⟩)] w' (PostD p w' (.agg (rowB 32 (dF (putC (sumW W) (twoL x y') (twoL rT rD) c1).1))) (putC (sumW W) (twoL x y') (twoL rT rD) c1).2)) :=
          Lib.hid fun x y' rT rD c1 w' v u h0 h1 h2 => step_any W hW h0 h1 h2 (by rw [twoL_len]; omega) (by rw [twoL_len]; omega)
        have HK := Lib.hid hk
        unfold maxLen at hlm hpm
        have e2 : (splitN N : Int) ≤ N := by omega
        have e3 : (splitN N : Int) ≤ lc := by omega
        have e4 : ¬ lc = splitN N := by omega
        have e5 : (N : Int) ≤ lc := by omega
        by_cases hik : i < splitN N
        · have HC : Hid (∀ w', Ex w w' → Calls Tryd.prog 72 #[I W, .slice (some ⟨g, off, none⟩) (splitN N) lc, I i, bv, .slice (some ⟨g2, off2, none⟩) r.length pc, .pointer (some ⟨p, 0, none⟩)] w' (PostDO p w' (climbC (sumW W) (l.take (splitN N)) i b r c))) :=
            Lib.hid fun w' k => ih _ hk1 _ _ lc i r (some ⟨g2, off2, none⟩) pc c w' (by rw [List.length_take]; omega) (by omega) (by omega) (by omega) (by unfold maxLen; omega) (hls.take _) (fun b hb => hsh b (List.mem_of_mem_take hb)) hik (by omega) (by unfold maxLen; omega) (by have := hpath.take r.length; simpa using this) (ex_trans kA k) (hk.ex k)
          have hcl := climbC_lo (S := sumW W) (l := l) (by omega) (i := i) (by rw [hl]; exact hik) b r y c
          rw [hl] at hcl
          rw [hcl]
          clear hcl ih hls hpath hbv hk
          generalize climbC (sumW W) (l.take (splitN N)) i b r c = o at HC ⊢
          generalize rootC (sumW W) (l.take (splitN N)) = rT at HT ⊢
          generalize rootC (sumW W) (l.drop (splitN N)) = rD at HD ⊢
          generalize splitN N = k at *
          generalize r.length = rn at *
          have hik2 : (i : Int) < k := by omega
          have hb1 : Hid (((w.alloc (.cells (rowB 32 fun _ => 0) 46)).alloc (.cells (rowB 32 (dF y)) 46)).heap[w.heap.size + 1]? = some (.cells (rowB 32 (dF y)) 46 (0, 0))) := Lib.hid (by
            have := heap_alloc_new (w.alloc (.cells (rowB 32 fun _ => 0) 46)) (.cells (rowB 32 (dF y)) 46)
            simpa only [World.size_alloc] using this)
          have HE := Lib.hid (fun w5 c5 => k_endD (p := p) (r := w.heap.size) (w := w) (A := w.alloc (.cells (rowB 32 fun _ => 0) 46)) (w5 := w5) (c := c5) (Nat.le_refl _) (heap_alloc_new _ _) (ex_alloc (ex_refl _) _))
          go_enter Tryd.func72, Tryd.ntmps72
          go_wp2
          refine wp_region_two (w.alloc (.cells (rowB 32 fun _ => 0) 46)) [.look 0, .look 1, .look 3, .look 4, .look 5, .look 6, .look 7, .look 8, .look 9, .look 10, .look 11, .look 12, .look 13, .two 2 14, .look 15, .eff 16, .look 17] (by (try show Ex _ _); repeat (first | (with_reducible exact ex_refl _) | (with_reducible assumption) | (with_reducible refine ex_drewL ?_) | (with_reducible refine ex_appR ?_ _) | (with_reducible refine ex_wx ?_ _) | (with_reducible refine ex_drew ?_) | (with_reducible refine ex_alloc ?_ _))) (by kernel_rfl) (by kernel_rfl) (fun _ _ d _ _ h => by cases d <;> exact h) ?_
          simp only [List.map_cons, List.map_nil, ixStp, nth]
          repeat (first | ((with_reducible refine wpTwo_look ?_); go_big_quiet_step (fail); (try (with_reducible refine wpQuiet_nil ?_))) | (with_reducible refine wpTwo_eff ?_) | ((with_reducible refine effT_F ?_ ?_); (focus rfl); go_simp) | ((with_reducible refine effT_T ?_ ?_); (focus rfl); (try dsimp only); go_wp2_with ((go_at_call 80; (with_reducible refine (HSp.out _).mono ?_); rintro e w' ⟨rfl, rfl⟩)); refine mixQ_mk (by (try show Ex _ _); repeat (first | (with_reducible exact ex_refl _) | (with_reducible assumption) | (with_reducible refine ex_drewL ?_) | (with_reducible refine ex_appR ?_ _) | (with_reducible refine ex_wx ?_ _) | (with_reducible refine ex_drew ?_) | (with_reducible refine ex_alloc ?_ _))) ?_))
          all_goals (with_reducible refine wpTwo_two ?_ ?_)
          all_goals repeat (first | ((with_reducible refine wpTwo_look ?_); go_big_quiet_step (fail); (try (with_reducible refine wpQuiet_nil ?_))) | (with_reducible refine wpTwo_eff ?_) | ((with_reducible refine effT_F ?_ ?_); (focus rfl); go_simp) | ((with_reducible refine effT_T ?_ ?_); (focus rfl); (try dsimp only); go_wp2_with ((go_at_call 80; (with_reducible refine (HSp.out _).mono ?_); rintro e w' ⟨rfl, rfl⟩)); refine mixQ_mk (by (try show Ex _ _); repeat (first | (with_reducible exact ex_refl _) | (with_reducible assumption) | (with_reducible refine ex_drewL ?_) | (with_reducible refine ex_appR ?_ _) | (with_reducible refine ex_wx ?_ _) | (with_reducible refine ex_drew ?_) | (with_reducible refine ex_alloc ?_ _))) ?_))
          all_goals (with_reducible refine wpTwo_nil ?_)
          all_goals
            go_wp2
            refine wp_region_seq [(0, true), (1, true), (2, true), (3, true), (5, true), (6, true), (7, true), (8, true), (4, false), (9, false), (10, false), (11, true)] (by kernel_rfl) (by kernel_rfl) (fun _ _ d _ _ h => by cases d <;> exact h) ?_
            simp only [List.map_cons, List.map_nil, nth]
            repeat (first | ((with_reducible refine wpSeq_look ?_); go_big_quiet_step (fail); (with_reducible refine wpQuiet_nil ?_)) | ((with_reducible refine wpSeq_effF ?_ ?_); (focus rfl); go_simp) | ((with_reducible refine wpSeq_eff ?_ ?_); (focus rfl); (try dsimp only); go_wp2_with (first | (go_at_call 44; (with_reducible refine (HT.out _ (by (try show Ex _ _); repeat (first | (with_reducible exact ex_refl _) | (with_reducible assumption) | (with_reducible refine ex_drewL ?_) | (with_reducible refine ex_appR ?_ _) | (with_reducible refine ex_wx ?_ _) | (with_reducible refine ex_drew ?_) | (with_reducible refine ex_alloc ?_ _)))).mono ?_); rintro e w2 ⟨rfl, X, rfl⟩) | (go_at_call 44; (with_reducible refine (HD.out _ (by (try show Ex _ _); repeat (first | (with_reducible exact ex_refl _) | (with_reducible assumption) | (with_reducible refine ex_drewL ?_) | (with_reducible refine ex_appR ?_ _) | (with_reducible refine ex_wx ?_ _) | (with_reducible refine ex_drew ?_) | (with_reducible refine ex_alloc ?_ _)))).mono ?_); rintro e w2 ⟨rfl, X, rfl⟩) | (go_at_call 81; (with_reducible refine (H2.out _ _ _).mono ?_); rintro e w2 ⟨v3, rfl, hv3, X, rfl⟩; (try simp only [wx_wx, wx_drew] at hv3))); refine mixQ_mk (by (try show Ex _ _); repeat (first | (with_reducible exact ex_refl _) | (with_reducible assumption) | (with_reducible refine ex_drewL ?_) | (with_reducible refine ex_appR ?_ _) | (with_reducible refine ex_wx ?_ _) | (with_reducible refine ex_drew ?_) | (with_reducible refine ex_alloc ?_ _))) ?_))
            refine wpSeq_nil ?_
            go_wp2_with (first | (go_at_call 72; (with_reducible refine (HC.out _ (by (try show Ex _ _); repeat (first | (with_reducible exact ex_refl _) | (with_reducible assumption) | (with_reducible refine ex_drewL ?_) | (with_reducible refine ex_appR ?_ _) | (with_reducible refine ex_wx ?_ _) | (with_reducible refine ex_drew ?_) | (with_reducible refine ex_alloc ?_ _)))).mono ?_); rintro e w2 ⟨x, c1, rfl, F2', K2, hy⟩; have F2 : FrP p (w.alloc (.cells (rowB 32 fun _ => 0) 46)) w2 := (Frm.ex (by (try show Ex _ _); repeat (first | (with_reducible exact ex_refl _) | (with_reducible assumption) | (with_reducible refine ex_drewL ?_) | (with_reducible refine ex_appR ?_ _) | (with_reducible refine ex_wx ?_ _) | (with_reducible refine ex_drew ?_) | (with_reducible refine ex_alloc ?_ _)))).trans F2'; have kA2 : Ex A w2 := F2.exA (ex_alloc kA _) hp; obtain ⟨nl, fl, zl⟩ := block_cellsF (n := 32) (row_frm hb1.out ((Frm.ex (by (try show Ex _ _); repeat (first | (with_reducible exact ex_refl _) | (with_reducible assumption) | (with_reducible refine ex_drewL ?_) | (with_reducible refine ex_appR ?_ _) | (with_reducible refine ex_wx ?_ _) | (with_reducible refine ex_drew ?_) | (with_reducible refine ex_alloc ?_ _)))).trans F2') (by omega)) (by simp); have hv32 := Lib.hid (OwnU.frm (OwnU.ex hv3 (by (try show Ex _ _); repeat (first | (with_reducible exact ex_refl _) | (with_reducible assumption) | (with_reducible refine ex_drewL ?_) | (with_reducible refine ex_appR ?_ _) | (with_reducible refine ex_wx ?_ _) | (with_reducible refine ex_drew ?_) | (with_reducible refine ex_alloc ?_ _)))) (Cd.nou (HK.out.ex (by (try show Ex _ _); repeat (first | (with_reducible exact ex_refl _) | (with_reducible assumption) | (with_reducible refine ex_drewL ?_) | (with_reducible refine ex_appR ?_ _) | (with_reducible refine ex_wx ?_ _) | (with_reducible refine ex_drew ?_) | (with_reducible refine ex_alloc ?_ _))))) F2'); clear hv3; replace F2 := Lib.hid F2; replace F2' := Lib.hid F2'; replace hy := Lib.hid hy) | (go_at_call 81; (with_reducible refine (H2.out _ _ _).mono ?_); rintro e w3 ⟨v4, rfl, hv4, X, rfl⟩; (try simp only [wx_wx, wx_drew] at hv4)) | (go_at_call 92; (with_reducible refine (HP.out x y rT rD c1 _ _ _ (K2.ex (by (try show Ex _ _); repeat (first | (with_reducible exact ex_refl _) | (with_reducible assumption) | (with_reducible refine ex_drewL ?_) | (with_reducible refine ex_appR ?_ _) | (with_reducible refine ex_wx ?_ _) | (with_reducible refine ex_drew ?_) | (with_reducible refine ex_alloc ?_ _)))) (OwnU.ex hv4 (by (try show Ex _ _); repeat (first | (with_reducible exact ex_refl _) | (with_reducible assumption) | (with_reducible refine ex_drewL ?_) | (with_reducible refine ex_appR ?_ _) | (with_reducible refine ex_wx ?_ _) | (with_reducible refine ex_drew ?_) | (with_reducible refine ex_alloc ?_ _)))) (OwnU.ex hv32.out (by (try show Ex _ _); repeat (first | (with_reducible exact ex_refl _) | (with_reducible assumption) | (with_reducible refine ex_drewL ?_) | (with_reducible refine ex_appR ?_ _) | (with_reducible refine ex_wx ?_ _) | (with_reducible refine ex_drew ?_) | (with_reducible refine ex_alloc ?_ _))))).mono ?_); rintro e w5 ⟨rfl, F5', K5⟩; have F5 : FrP p (w.alloc (.cells (rowB 32 fun _ => 0) 46)) w5 := F2.out.trans ((Frm.ex (by (try show Ex _ _); repeat (first | (with_reducible exact ex_refl _) | (with_reducible assumption) | (with_reducible refine ex_drewL ?_) | (with_reducible refine ex_appR ?_ _) | (with_reducible refine ex_wx ?_ _) | (with_reducible refine ex_drew ?_) | (with_reducible refine ex_alloc ?_ _)))).trans F5'); obtain ⟨⟨n5, f5, z5⟩, HX⟩ := HE.out w5 _ F5 K5 (Nat.ne_of_gt hpw); replace HX := Lib.hid HX; replace F5 := Lib.hid F5; replace F5' := Lib.hid F5'))
            obtain ⟨x1, x2, x3⟩ := HX.out (putC (sumW W) (twoL x y) (twoL rT rD) c1).1
            refine ret_rowV (v := .bool o.isSome) Tryd.results72 Tryd.underlying46 rfl info_id rfl x1 rfl rfl ⟨(putC (sumW W) (twoL x y) (twoL rT rD) c1).1, (putC (sumW W) (twoL x y) (twoL rT rD) c1).2, by rw [Option.isSome_map], x2, x3, fun u hu => ?_⟩
            obtain ⟨q, hq, rfl⟩ := Option.map_eq_some_iff.1 hu
            obtain rfl := hy.out q hq
            rfl
        · have HC : Hid (∀ w', Ex w w' → Calls Tryd.prog 72 #[I W, .slice (some ⟨g, off + splitN N, none⟩) (N - splitN N) (lc - splitN N), I ((i : Int) - splitN N), bv, .slice (some ⟨g2, off2, none⟩) r.length pc, .pointer (some ⟨p, 0, none⟩)] w' (PostDO p w' (climbC (sumW W) (l.drop (splitN N)) (i - splitN N) b r c))) :=
            Lib.hid fun w' k => by
            have := ih (N - splitN N) (by omega) (l.drop (splitN N)) (some ⟨g, off + splitN N, none⟩) (lc - splitN N) (i - splitN N) r (some ⟨g2, off2, none⟩) pc c w' (by rw [List.length_drop]; omega) (by omega) (by omega) (by omega) (by unfold maxLen; omega) (hls.drop _) (fun b hb => hsh b (List.mem_of_mem_drop hb)) (by omega) (by omega) (by unfold maxLen; omega) (by have := hpath.take r.length; simpa using this) (ex_trans kA k) (hk.ex k)
            rwa [show ((i - splitN N : Nat) : Int) = (i : Int) - splitN N by omega] at this
          have hcl := climbC_hi (S := sumW W) (l := l) (by omega) (i := i) (by rw [hl]; exact hik) b r y c
          rw [hl] at hcl
          rw [hcl]
          clear hcl ih hls hpath hbv hk
          generalize climbC (sumW W) (l.drop (splitN N)) (i - splitN N) b r c = o at HC ⊢
          generalize rootC (sumW W) (l.take (splitN N)) = rT at HT ⊢
          generalize rootC (sumW W) (l.drop (splitN N)) = rD at HD ⊢
          generalize splitN N = k at *
          generalize r.length = rn at *
          have hik2 : ¬ (i : Int) < k := by omega
          have hb1 : Hid (((w.alloc (.cells (rowB 32 fun _ => 0) 46)).alloc (.cells (rowB 32 (dF y)) 46)).heap[w.heap.size + 1]? = some (.cells (rowB 32 (dF y)) 46 (0, 0))) := Lib.hid (by
            have := heap_alloc_new (w.alloc (.cells (rowB 32 fun _ => 0) 46)) (.cells (rowB 32 (dF y)) 46)
            simpa only [World.size_alloc] using this)
          have HE := Lib.hid (fun w5 c5 => k_endD (p := p) (r := w.heap.size) (w := w) (A := w.alloc (.cells (rowB 32 fun _ => 0) 46)) (w5 := w5) (c := c5) (Nat.le_refl _) (heap_alloc_new _ _) (ex_alloc (ex_refl _) _))
          go_enter Tryd.func72, Tryd.ntmps72
          go_wp2
          refine wp_region_two (w.alloc (.cells (rowB 32 fun _ => 0) 46)) [.look 0, .look 1, .look 3, .look 4, .look 5, .look 6, .look 7, .look 8, .look 9, .look 10, .look 11, .look 12, .look 13, .two 2 14, .look 15, .eff 16, .look 17] (by (try show Ex _ _); repeat (first | (with_reducible exact ex_refl _) | (with_reducible assumption) | (with_reducible refine ex_drewL ?_) | (with_reducible refine ex_appR ?_ _) | (with_reducible refine ex_wx ?_ _) | (with_reducible refine ex_drew ?_) | (with_reducible refine ex_alloc ?_ _))) (by kernel_rfl) (by kernel_rfl) (fun _ _ d _ _ h => by cases d <;> exact h) ?_
          simp only [List.map_cons, List.map_nil, ixStp, nth]
          repeat (first | ((with_reducible refine wpTwo_look ?_); go_big_quiet_step (fail); (try (with_reducible refine wpQuiet_nil ?_))) | (with_reducible refine wpTwo_eff ?_) | ((with_reducible refine effT_F ?_ ?_); (focus rfl); go_simp) | ((with_reducible refine effT_T ?_ ?_); (focus rfl); (try dsimp only); go_wp2_with ((go_at_call 80; (with_reducible refine (HSp.out _).mono ?_); rintro e w' ⟨rfl, rfl⟩)); refine mixQ_mk (by (try show Ex _ _); repeat (first | (with_reducible exact ex_refl _) | (with_reducible assumption) | (with_reducible refine ex_drewL ?_) | (with_reducible refine ex_appR ?_ _) | (with_reducible refine ex_wx ?_ _) | (with_reducible refine ex_drew ?_) | (with_reducible refine ex_alloc ?_ _))) ?_))
          all_goals (with_reducible refine wpTwo_two ?_ ?_)
          all_goals repeat (first | ((with_reducible refine wpTwo_look ?_); go_big_quiet_step (fail); (try (with_reducible refine wpQuiet_nil ?_))) | (with_reducible refine wpTwo_eff ?_) | ((with_reducible refine effT_F ?_ ?_); (focus rfl); go_simp) | ((with_reducible refine effT_T ?_ ?_); (focus rfl); (try dsimp only); go_wp2_with ((go_at_call 80; (with_reducible refine (HSp.out _).mono ?_); rintro e w' ⟨rfl, rfl⟩)); refine mixQ_mk (by (try show Ex _ _); repeat (first | (with_reducible exact ex_refl _) | (with_reducible assumption) | (with_reducible refine ex_drewL ?_) | (with_reducible refine ex_appR ?_ _) | (with_reducible refine ex_wx ?_ _) | (with_reducible refine ex_drew ?_) | (with_reducible refine ex_alloc ?_ _))) ?_))
          all_goals (with_reducible refine wpTwo_nil ?_)
          all_goals
            go_wp2
            refine wp_region_seq [(0, true), (1, true), (2, true), (3, true), (5, true), (6, true), (7, true), (8, true), (4, false), (9, false), (10, false), (11, true)] (by kernel_rfl) (by kernel_rfl) (fun _ _ d _ _ h => by cases d <;> exact h) ?_
            simp only [List.map_cons, List.map_nil, nth]
            repeat (first | ((with_reducible refine wpSeq_look ?_); go_big_quiet_step (fail); (with_reducible refine wpQuiet_nil ?_)) | ((with_reducible refine wpSeq_effF ?_ ?_); (focus rfl); go_simp) | ((with_reducible refine wpSeq_eff ?_ ?_); (focus rfl); (try dsimp only); go_wp2_with (first | (go_at_call 44; (with_reducible refine (HT.out _ (by (try show Ex _ _); repeat (first | (with_reducible exact ex_refl _) | (with_reducible assumption) | (with_reducible refine ex_drewL ?_) | (with_reducible refine ex_appR ?_ _) | (with_reducible refine ex_wx ?_ _) | (with_reducible refine ex_drew ?_) | (with_reducible refine ex_alloc ?_ _)))).mono ?_); rintro e w2 ⟨rfl, X, rfl⟩) | (go_at_call 44; (with_reducible refine (HD.out _ (by (try show Ex _ _); repeat (first | (with_reducible exact ex_refl _) | (with_reducible assumption) | (with_reducible refine ex_drewL ?_) | (with_reducible refine ex_appR ?_ _) | (with_reducible refine ex_wx ?_ _) | (with_reducible refine ex_drew ?_) | (with_reducible refine ex_alloc ?_ _)))).mono ?_); rintro e w2 ⟨rfl, X, rfl⟩) | (go_at_call 81; (with_reducible refine (H2.out _ _ _).mono ?_); rintro e w2 ⟨v3, rfl, hv3, X, rfl⟩; (try simp only [wx_wx, wx_drew] at hv3))); refine mixQ_mk (by (try show Ex _ _); repeat (first | (with_reducible exact ex_refl _) | (with_reducible assumption) | (with_reducible refine ex_drewL ?_) | (with_reducible refine ex_appR ?_ _) | (with_reducible refine ex_wx ?_ _) | (with_reducible refine ex_drew ?_) | (with_reducible refine ex_alloc ?_ _))) ?_))
            refine wpSeq_nil ?_
            go_wp2_with (first | (go_at_call 72; (with_reducible refine (HC.out _ (by (try show Ex _ _); repeat (first | (with_reducible exact ex_refl _) | (with_reducible assumption) | (with_reducible refine ex_drewL ?_) | (with_reducible refine ex_appR ?_ _) | (with_reducible refine ex_wx ?_ _) | (with_reducible refine ex_drew ?_) | (with_reducible refine ex_alloc ?_ _)))).mono ?_); rintro e w2 ⟨x, c1, rfl, F2', K2, hy⟩; have F2 : FrP p (w.alloc (.cells (rowB 32 fun _ => 0) 46)) w2 := (Frm.ex (by (try show Ex _ _); repeat (first | (with_reducible exact ex_refl _) | (with_reducible assumption) | (with_reducible refine ex_drewL ?_) | (with_reducible refine ex_appR ?_ _) | (with_reducible refine ex_wx ?_ _) | (with_reducible refine ex_drew ?_) | (with_reducible refine ex_alloc ?_ _)))).trans F2'; have kA2 : Ex A w2 := F2.exA (ex_alloc kA _) hp; obtain ⟨nl, fl, zl⟩ := block_cellsF (n := 32) (row_frm hb1.out ((Frm.ex (by (try show Ex _ _); repeat (first | (with_reducible exact ex_refl _) | (with_reducible assumption) | (with_reducible refine ex_drewL ?_) | (with_reducible refine ex_appR ?_ _) | (with_reducible refine ex_wx ?_ _) | (with_reducible refine ex_drew ?_) | (with_reducible refine ex_alloc ?_ _)))).trans F2') (by omega)) (by simp); have hv32 := Lib.hid (OwnU.frm (OwnU.ex hv3 (by (try show Ex _ _); repeat (first | (with_reducible exact ex_refl _) | (with_reducible assumption) | (with_reducible refine ex_drewL ?_) | (with_reducible refine ex_appR ?_ _) | (with_reducible refine ex_wx ?_ _) | (with_reducible refine ex_drew ?_) | (with_reducible refine ex_alloc ?_ _)))) (Cd.nou (HK.out.ex (by (try show Ex _ _); repeat (first | (with_reducible exact ex_refl _) | (with_reducible assumption) | (with_reducible refine ex_drewL ?_) | (with_reducible refine ex_appR ?_ _) | (with_reducible refine ex_wx ?_ _) | (with_reducible refine ex_drew ?_) | (with_reducible refine ex_alloc ?_ _))))) F2'); clear hv3; replace F2 := Lib.hid F2; replace F2' := Lib.hid F2'; replace hy := Lib.hid hy) | (go_at_call 81; (with_reducible refine (H2.out _ _ _).mono ?_); rintro e w3 ⟨v4, rfl, hv4, X, rfl⟩; (try simp only [wx_wx, wx_drew] at hv4)) | (go_at_call 92; (with_reducible refine (HP.out y x rT rD c1 _ _ _ (K2.ex (by (try show Ex _ _); repeat (first | (with_reducible exact ex_refl _) | (with_reducible assumption) | (with_reducible refine ex_drewL ?_) | (with_reducible refine ex_appR ?_ _) | (with_reducible refine ex_wx ?_ _) | (with_reducible refine ex_drew ?_) | (with_reducible refine ex_alloc ?_ _)))) (OwnU.ex hv4 (by (try show Ex _ _); repeat (first | (with_reducible exact ex_refl _) | (with_reducible assumption) | (with_reducible refine ex_drewL ?_) | (with_reducible refine ex_appR ?_ _) | (with_reducible refine ex_wx ?_ _) | (with_reducible refine ex_drew ?_) | (with_reducible refine ex_alloc ?_ _)))) (OwnU.ex hv32.out (by (try show Ex _ _); repeat (first | (with_reducible exact ex_refl _) | (with_reducible assumption) | (with_reducible refine ex_drewL ?_) | (with_reducible refine ex_appR ?_ _) | (with_reducible refine ex_wx ?_ _) | (with_reducible refine ex_drew ?_) | (with_reducible refine ex_alloc ?_ _))))).mono ?_); rintro e w5 ⟨rfl, F5', K5⟩; have F5 : FrP p (w.alloc (.cells (rowB 32 fun _ => 0) 46)) w5 := F2.out.trans ((Frm.ex (by (try show Ex _ _); repeat (first | (with_reducible exact ex_refl _) | (with_reducible assumption) | (with_reducible refine ex_drewL ?_) | (with_reducible refine ex_appR ?_ _) | (with_reducible refine ex_wx ?_ _) | (with_reducible refine ex_drew ?_) | (with_reducible refine ex_alloc ?_ _)))).trans F5'); obtain ⟨⟨n5, f5, z5⟩, HX⟩ := HE.out w5 _ F5 K5 (Nat.ne_of_gt hpw); replace HX := Lib.hid HX; replace F5 := Lib.hid F5; replace F5' := Lib.hid F5'))
            obtain ⟨x1, x2, x3⟩ := HX.out (putC (sumW W) (twoL y x) (twoL rT rD) c1).1
            refine ret_rowV (v := .bool o.isSome) Tryd.results72 Tryd.underlying46 rfl info_id rfl x1 rfl rfl ⟨(putC (sumW W) (twoL y x) (twoL rT rD) c1).1, (putC (sumW W) (twoL y x) (twoL rT rD) c1).2, by rw [Option.isSome_map], x2, x3, fun u hu => ?_⟩
            obtain ⟨q, hq, rfl⟩ := Option.map_eq_some_iff.1 hu
            obtain rfl := hy.out q hq
            rfl
end Go.Proofs.YtcdocklbpfdmeaaDoor
