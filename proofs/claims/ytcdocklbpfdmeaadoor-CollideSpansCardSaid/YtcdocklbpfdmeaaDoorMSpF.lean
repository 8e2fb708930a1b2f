import Derived.Test.YtcdocklbpfdmeaaDoorMSpE

/- Collide: the top of a span: two halves that are there. -/
set_option linter.unusedSimpArgs false
set_option linter.unusedVariables false
set_option linter.unnecessarySimpa false
set_option maxRecDepth 20000
namespace Go.Proofs.YtcdocklbpfdmeaaDoor
open Go.RowKit
theorem q_endB {A w W6 w5 : World} {p q W r : Nat} {T F : Int} {pv : Value} {qs : List Dg} {c : Cl} (F6w : FrQ p q w W6) (hr : w.heap.size ≤ r) (hb : W6.heap[r]? = some (.cells (rowB 32 fun _ => 0) 46 (0, 0))) (S6 : Sp A W6 q p T F pv qs) (F5 : FrP p W6 w5) (K5 : Wk w5 p W c) (hp : p ≠ r) (hq : q ≠ r) (hqp : q ≠ p) :
    (cellsN w5 r 0 32 = some (rowB 32 fun _ => 0) ∧ frozenN w5 r 0 32 = false ∧ r < w5.heap.size) ∧
    ∀ x : Dg, cellsN (w5.setCells r 0 (rowB 32 (dF x)).toList) r 0 32 = some (rowB 32 (dF x)) ∧ FrQ p q w (w5.setCells r 0 (rowB 32 (dF x)).toList) ∧ Wk (w5.setCells r 0 (rowB 32 (dF x)).toList) p W c ∧ Sp A (w5.setCells r 0 (rowB 32 (dF x)).toList) q p T F pv qs := by
  have b5 := row_frm hb F5 (Ne.symm hp)
  have S5 := S6.frm F5 hqp
  refine ⟨block_cellsF b5 (by simp), fun x => ?_⟩
  have b6 := setCells_block r 46 (0, 0) (rowB 32 (dF x)).toList 0 w5 _ b5
  rw [spliceA_all _ _ (by simp)] at b6
  exact ⟨(block_cellsF b6 (by simp)).1, (F6w.trans (FrQ.ofP F5)).setsNew hr _ _, K5.setsR ⟨_, _, b5⟩ _ _, S5.frm (frm_sets (r := r) 0 _) hq⟩
set_option maxHeartbeats 2000000 in
theorem span_two1 {w0 A : World} (G : Glob w0) (k0 : Ex w0 A) {p q W : Nat} (hW : W ≤ 256) {T : Int} {F : Nat} {pa : Option Addr} {pn pc : Nat} (at_ n k : Nat) (hk1 : k < n) (hk2 : 1 ≤ k) (hn2 : 2 ≤ n) (ho : ¬ (at_ + n ≤ F ∨ F + pn ≤ at_)) (h1 : at_ + n ≤ 1000) (h3 : F ≤ 1000) (h4 : pn ≤ 1000) (h5 : pn ≤ pc) (h6 : pc ≤ maxLen) (qs : List Dg) {g off : Nat} (lc : Nat) (hlc : n ≤ lc) (hlm : lc ≤ maxLen) (hT hD : Dg) (c : Cl) (w : World) (kA : Ex A w) (hk : Wk w p W c) (hs : Sp A w q p T F (.slice pa pn pc) qs) (hAp : A.heap.size ≤ p) (hAq : A.heap.size ≤ q)
    (o1 : Option (Dg × List Dg × Cl)) (f2 : List Dg → Cl → Option (Dg × List Dg × Cl))
    (HSp : Hid (∀ w, Calls Tryd.prog 133 #[I n] w (fun e w' => e = .returned (I k) ∧ w = w')))
    (HTp : Hid (∀ w', Ex A w' → Calls Tryd.prog 78 #[I W, .slice (some ⟨g, off, none⟩) k lc] w' (Post w' (.agg (rowB 32 (dF hT))))))
    (HDp : Hid (∀ w', Ex A w' → Calls Tryd.prog 78 #[I W, .slice (some ⟨g, off + k * 2, none⟩) ((n - k : Nat)) (lc - k)] w' (Post w' (.agg (rowB 32 (dF hD))))))
    (HC1 : Hid (∀ w', Ex w w' → Calls Tryd.prog 99 #[.pointer (some ⟨q, 0, none⟩), I at_, I k, .slice (some ⟨g, off, none⟩) k lc] w' (PostTs A p q W T F (.slice pa pn pc) w' o1)))
    (HC2 : Hid (∀ qs1 c1 w', Ex A w' → Wk w' p W c1 → Sp A w' q p T F (.slice pa pn pc) qs1 → Calls Tryd.prog 99 #[.pointer (some ⟨q, 0, none⟩), I ((at_ : Int) + k), I ((n : Int) - k), .slice (some ⟨g, off + k * 2, none⟩) ((n - k : Nat)) (lc - k)] w' (PostTs A p q W T F (.slice pa pn pc) w' (f2 qs1 c1)))) :
    Calls Tryd.prog 99 #[.pointer (some ⟨q, 0, none⟩), I at_, I n, .slice (some ⟨g, off, none⟩) n lc] w (PostTs A p q W T F (.slice pa pn pc) w (o1.bind fun x => (f2 x.2.1 x.2.2).map fun y => ((putH (sumW W) (twoL x.1 y.1) (some (twoL hT hD)) y.2.2).1, y.2.1, (putH (sumW W) (twoL x.1 y.1) (some (twoL hT hD)) y.2.2).2))) := by
  obtain ⟨c0, c1, c2, c3, _, zq⟩ := hs.cells
  have hne := hs.ne hk
  have hpw := hk.lt
  have HK := Lib.hid hk
  have t1 : decide ((at_ : Int) + n ≤ F) = false := decide_eq_false (by omega)
  have t2 : decide ((F : Int) + pn ≤ at_) = false := decide_eq_false (by omega)
  have t3 : ((n : Int) == 1) = false := beq_eq_false_iff_ne.2 (by omega)
  have h5' : (pn : Int) ≤ pc := by omega
  have hkn : (k : Int) ≤ n := by omega
  have hkl : (k : Int) ≤ lc := by omega
  have hnl : (n : Int) ≤ lc := by omega
  have hnk : ¬ lc = k := by omega
  have hnp : decide ((0 : Int) < n) = true := decide_eq_true (by omega)
  have hnp2 : decide (0 < n) = true := decide_eq_true (by omega)
  have hn0 : ((n - k : Nat) : Int) = (n : Int) - k := by omega
  have hnz : (((n - k : Nat) : Int) == 0) = false := beq_eq_false_iff_ne.2 (by omega)
  have hnz2 : (((n : Int) - k) == 0) = false := beq_eq_false_iff_ne.2 (by omega)
  unfold maxLen at h6 hlm
  clear hs hk ho
  cases o1 with
  | none =>
    have e0 : ((none : Option (Dg × List Dg × Cl)).bind fun x => (f2 x.2.1 x.2.2).map fun y => ((putH (sumW W) (twoL x.1 y.1) (some (twoL hT hD)) y.2.2).1, y.2.1, (putH (sumW W) (twoL x.1 y.1) (some (twoL hT hD)) y.2.2).2)) = none := rfl
    rw [e0]
    replace HC1 : Hid (∀ w', Ex w w' → Calls Tryd.prog 99 #[.pointer (some ⟨q, 0, none⟩), I at_, I k, .slice (some ⟨g, off, none⟩) k lc] w' (fun e w2 => e = offE ∧ FrQ p q w' w2 ∧ ∃ c, Wk w2 p W c)) := HC1
    clear HC2
    go_enter Tryd.func99, Tryd.ntmps99
    go_wp2
    refine wp_region_seq [(0, true), (1, true), (2, true), (3, true), (4, true), (5, true), (6, true), (7, true), (8, true), (9, true), (10, true), (11, true), (12, true), (13, true), (14, true), (15, true), (16, true), (17, true), (18, true), (19, true), (20, true), (21, true), (22, true), (23, true), (24, true)] (by kernel_rfl) (by kernel_rfl) (fun _ _ d _ _ h => by cases d <;> exact h) ?_
    simp only [List.map_cons, List.map_nil, nth]
    repeat (first | ((with_reducible refine wpSeq_look ?_); go_big_quiet_step (fail); (with_reducible refine wpQuiet_nil ?_)) | ((with_reducible refine wpSeq_effF ?_ ?_); (focus rfl); go_simp) | ((with_reducible refine wpSeq_eff ?_ ?_); (focus rfl); (try dsimp only); go_wp2_with (fail); refine mixQ_mk (by (try show Ex _ _); with_reducible repeat (first | exact ex_refl _ | assumption | refine ex_drewL ?_ | refine ex_appR ?_ _ | refine ex_wx ?_ _ | refine ex_drew ?_ | refine ex_alloc ?_ _)) ?_))
    refine wpSeq_nil ?_
    go_wp2_with (go_at_call 133; (with_reducible refine (HSp.out _).mono ?_); rintro e w' ⟨rfl, rfl⟩)
    refine wp_region_seq [(0, true), (1, true), (2, true), (3, true), (4, true), (5, true), (6, true), (7, true)] (by kernel_rfl) (by kernel_rfl) (fun _ _ d _ _ h => by cases d <;> exact h) ?_
    simp only [List.map_cons, List.map_nil, nth]
    repeat (first | ((with_reducible refine wpSeq_look ?_); go_big_quiet_step (fail); (with_reducible refine wpQuiet_nil ?_)) | ((with_reducible refine wpSeq_effF ?_ ?_); (focus rfl); go_simp) | ((with_reducible refine wpSeq_eff ?_ ?_); (focus rfl); (try dsimp only); go_wp2_with (fail); refine mixQ_mk (by (try show Ex _ _); with_reducible repeat (first | exact ex_refl _ | assumption | refine ex_drewL ?_ | refine ex_appR ?_ _ | refine ex_wx ?_ _ | refine ex_drew ?_ | refine ex_alloc ?_ _)) ?_))
    refine wpSeq_nil ?_
    go_wp2_with (first | (go_at_call 99; (with_reducible refine (HC1.out _ (by (try show Ex _ _); with_reducible repeat (first | exact ex_refl _ | assumption | refine ex_drewL ?_ | refine ex_appR ?_ _ | refine ex_wx ?_ _ | refine ex_drew ?_ | refine ex_alloc ?_ _))).mono ?_); rintro e w2 ⟨rfl, F2, c2, K2⟩; dsimp only [offE]; exact ⟨rfl, rfl, (Frm.ex (by (try show Ex _ _); with_reducible repeat (first | exact ex_refl _ | assumption | refine ex_drewL ?_ | refine ex_appR ?_ _ | refine ex_wx ?_ _ | refine ex_drew ?_ | refine ex_alloc ?_ _))).trans F2, c2, K2⟩))
  | some x =>
    obtain ⟨x1, qs1, c1'⟩ := x
    replace HC1 : Hid (∀ w', Ex w w' → Calls Tryd.prog 99 #[.pointer (some ⟨q, 0, none⟩), I at_, I k, .slice (some ⟨g, off, none⟩) k lc] w' (fun e w2 => e = .returned (.agg (rowB 32 (dF x1))) ∧ FrQ p q w' w2 ∧ Wk w2 p W c1' ∧ Sp A w2 q p T F (.slice pa pn pc) qs1)) := HC1
    have HC2' := Lib.hid (HC2.out qs1 c1')
    have e0 : ((some (x1, qs1, c1')).bind fun x => (f2 x.2.1 x.2.2).map fun y => ((putH (sumW W) (twoL x.1 y.1) (some (twoL hT hD)) y.2.2).1, y.2.1, (putH (sumW W) (twoL x.1 y.1) (some (twoL hT hD)) y.2.2).2)) = (f2 qs1 c1').map fun y => ((putC (sumW W) (twoL x1 y.1) (twoL hT hD) y.2.2).1, y.2.1, (putC (sumW W) (twoL x1 y.1) (twoL hT hD) y.2.2).2) := rfl
    rw [e0]
    generalize f2 qs1 c1' = o2 at HC2' ⊢
    clear HC2 e0
    have tok : True := trivial
    cases o2 with
    | none =>
      rw [Option.map_none]
      have HC2 : Hid (∀ w', Ex A w' → Wk w' p W c1' → Sp A w' q p T F (.slice pa pn pc) qs1 → Calls Tryd.prog 99 #[.pointer (some ⟨q, 0, none⟩), I ((at_ : Int) + k), I ((n : Int) - k), .slice (some ⟨g, off + k * 2, none⟩) ((n - k : Nat)) (lc - k)] w' (fun e w2 => e = offE ∧ FrQ p q w' w2 ∧ ∃ c, Wk w2 p W c)) := HC2'
      clear HC2'
      go_enter Tryd.func99, Tryd.ntmps99
      go_wp2
      refine wp_region_seq [(0, true), (1, true), (2, true), (3, true), (4, true), (5, true), (6, true), (7, true), (8, true), (9, true), (10, true), (11, true), (12, true), (13, true), (14, true), (15, true), (16, true), (17, true), (18, true), (19, true), (20, true), (21, true), (22, true), (23, true), (24, true)] (by kernel_rfl) (by kernel_rfl) (fun _ _ d _ _ h => by cases d <;> exact h) ?_
      simp only [List.map_cons, List.map_nil, nth]
      repeat (first | ((with_reducible refine wpSeq_look ?_); go_big_quiet_step (fail); (with_reducible refine wpQuiet_nil ?_)) | ((with_reducible refine wpSeq_effF ?_ ?_); (focus rfl); go_simp) | ((with_reducible refine wpSeq_eff ?_ ?_); (focus rfl); (try dsimp only); go_wp2_with (fail); refine mixQ_mk (by (try show Ex _ _); with_reducible repeat (first | exact ex_refl _ | assumption | refine ex_drewL ?_ | refine ex_appR ?_ _ | refine ex_wx ?_ _ | refine ex_drew ?_ | refine ex_alloc ?_ _)) ?_))
      refine wpSeq_nil ?_
      go_wp2_with (go_at_call 133; (with_reducible refine (HSp.out _).mono ?_); rintro e w' ⟨rfl, rfl⟩)
      refine wp_region_seq [(0, true), (1, true), (2, true), (3, true), (4, true), (5, true), (6, true), (7, true)] (by kernel_rfl) (by kernel_rfl) (fun _ _ d _ _ h => by cases d <;> exact h) ?_
      simp only [List.map_cons, List.map_nil, nth]
      repeat (first | ((with_reducible refine wpSeq_look ?_); go_big_quiet_step (fail); (with_reducible refine wpQuiet_nil ?_)) | ((with_reducible refine wpSeq_effF ?_ ?_); (focus rfl); go_simp) | ((with_reducible refine wpSeq_eff ?_ ?_); (focus rfl); (try dsimp only); go_wp2_with (fail); refine mixQ_mk (by (try show Ex _ _); with_reducible repeat (first | exact ex_refl _ | assumption | refine ex_drewL ?_ | refine ex_appR ?_ _ | refine ex_wx ?_ _ | refine ex_drew ?_ | refine ex_alloc ?_ _)) ?_))
      refine wpSeq_nil ?_
      go_wp2_with (first | (go_at_call 99; have _t := tok; clear tok; (with_reducible refine (HC1.out _ (by (try show Ex _ _); with_reducible repeat (first | exact ex_refl _ | assumption | refine ex_drewL ?_ | refine ex_appR ?_ _ | refine ex_wx ?_ _ | refine ex_drew ?_ | refine ex_alloc ?_ _))).mono ?_); rintro e w2 ⟨rfl, F2', K2, S2⟩; have F2 : FrQ p q (w.alloc (.cells (rowB 32 fun _ => 0) 46)) w2 := (Frm.ex (by (try show Ex _ _); with_reducible repeat (first | exact ex_refl _ | assumption | refine ex_drewL ?_ | refine ex_appR ?_ _ | refine ex_wx ?_ _ | refine ex_drew ?_ | refine ex_alloc ?_ _))).trans F2'; have kA2 : Ex A w2 := FrQ.exA F2 (ex_alloc kA _) hAp hAq; have zp2 := K2.lt; have zq2 := S2.lt; replace F2' := Lib.hid F2') | (go_at_call 99; (with_reducible refine (HC2.out _ (ex_trans kA2 (by (try show Ex _ _); with_reducible repeat (first | exact ex_refl _ | assumption | refine ex_drewL ?_ | refine ex_appR ?_ _ | refine ex_wx ?_ _ | refine ex_drew ?_ | refine ex_alloc ?_ _))) (K2.ex (by (try show Ex _ _); with_reducible repeat (first | exact ex_refl _ | assumption | refine ex_drewL ?_ | refine ex_appR ?_ _ | refine ex_wx ?_ _ | refine ex_drew ?_ | refine ex_alloc ?_ _))) (S2.ex (by (try show Ex _ _); with_reducible repeat (first | exact ex_refl _ | assumption | refine ex_drewL ?_ | refine ex_appR ?_ _ | refine ex_wx ?_ _ | refine ex_drew ?_ | refine ex_alloc ?_ _)))).mono ?_); rintro e w4 ⟨rfl, F4, c4, K4⟩; dsimp only [offE]; exact ⟨rfl, rfl, (Frm.ex (by (try show Ex _ _); with_reducible repeat (first | exact ex_refl _ | assumption | refine ex_drewL ?_ | refine ex_appR ?_ _ | refine ex_wx ?_ _ | refine ex_drew ?_ | refine ex_alloc ?_ _))).trans (F2.trans ((Frm.ex (by (try show Ex _ _); with_reducible repeat (first | exact ex_refl _ | assumption | refine ex_drewL ?_ | refine ex_appR ?_ _ | refine ex_wx ?_ _ | refine ex_drew ?_ | refine ex_alloc ?_ _))).trans F4)), c4, K4⟩))
    | some y =>
      obtain ⟨y1, qs2, c2'⟩ := y
      rw [Option.map_some]
      have HC2 : Hid (∀ w', Ex A w' → Wk w' p W c1' → Sp A w' q p T F (.slice pa pn pc) qs1 → Calls Tryd.prog 99 #[.pointer (some ⟨q, 0, none⟩), I ((at_ : Int) + k), I ((n : Int) - k), .slice (some ⟨g, off + k * 2, none⟩) ((n - k : Nat)) (lc - k)] w' (fun e w2 => e = .returned (.agg (rowB 32 (dF y1))) ∧ FrQ p q w' w2 ∧ Wk w2 p W c2' ∧ Sp A w2 q p T F (.slice pa pn pc) qs2)) := HC2'
      clear HC2'
      have H2 := Lib.hid (fun a b w => two_any a b w)
      have HPt : Hid (∀ w' v u, Ex A w' → Wk w' p W c2' → OwnU w' v (twoL x1 y1) → OwnU w' u (twoL hT hD) → Calls Tryd.prog 100 #[.pointer (some ⟨p, 0, none⟩), v, u] w' (PostK p W w' (.agg (rowB 32 (dF (putC (sumW W) (twoL x1 y1) (twoL hT hD) c2').1))) (putC (sumW W) (twoL x1 y1) (twoL hT hD) c2').2)) :=
        Lib.hid fun w' v u k h0 h1 h2 => put_any G W hW (ex_trans k0 k) h0 h1 h2 (by rw [twoL_len]; omega) (by rw [twoL_len]; omega)
      unfold PostTs
      simp only
      generalize putC (sumW W) (twoL x1 y1) (twoL hT hD) c2' = o at HPt ⊢
      obtain ⟨z, c'⟩ := o
      simp only at HPt ⊢
      have tok2 : True := trivial
      go_enter Tryd.func99, Tryd.ntmps99
      go_wp2
      refine wp_region_seq [(0, true), (1, true), (2, true), (3, true), (4, true), (5, true), (6, true), (7, true), (8, true), (9, true), (10, true), (11, true), (12, true), (13, true), (14, true), (15, true), (16, true), (17, true), (18, true), (19, true), (20, true), (21, true), (22, true), (23, true), (24, true)] (by kernel_rfl) (by kernel_rfl) (fun _ _ d _ _ h => by cases d <;> exact h) ?_
      simp only [List.map_cons, List.map_nil, nth]
      repeat (first | ((with_reducible refine wpSeq_look ?_); go_big_quiet_step (fail); (with_reducible refine wpQuiet_nil ?_)) | ((with_reducible refine wpSeq_effF ?_ ?_); (focus rfl); go_simp) | ((with_reducible refine wpSeq_eff ?_ ?_); (focus rfl); (try dsimp only); go_wp2_with (fail); refine mixQ_mk (by (try show Ex _ _); with_reducible repeat (first | exact ex_refl _ | assumption | refine ex_drewL ?_ | refine ex_appR ?_ _ | refine ex_wx ?_ _ | refine ex_drew ?_ | refine ex_alloc ?_ _)) ?_))
      refine wpSeq_nil ?_
      go_wp2_with (go_at_call 133; (with_reducible refine (HSp.out _).mono ?_); rintro e w' ⟨rfl, rfl⟩)
      refine wp_region_seq [(0, true), (1, true), (2, true), (3, true), (4, true), (5, true), (6, true), (7, true)] (by kernel_rfl) (by kernel_rfl) (fun _ _ d _ _ h => by cases d <;> exact h) ?_
      simp only [List.map_cons, List.map_nil, nth]
      repeat (first | ((with_reducible refine wpSeq_look ?_); go_big_quiet_step (fail); (with_reducible refine wpQuiet_nil ?_)) | ((with_reducible refine wpSeq_effF ?_ ?_); (focus rfl); go_simp) | ((with_reducible refine wpSeq_eff ?_ ?_); (focus rfl); (try dsimp only); go_wp2_with (fail); refine mixQ_mk (by (try show Ex _ _); with_reducible repeat (first | exact ex_refl _ | assumption | refine ex_drewL ?_ | refine ex_appR ?_ _ | refine ex_wx ?_ _ | refine ex_drew ?_ | refine ex_alloc ?_ _)) ?_))
      refine wpSeq_nil ?_
      go_wp2_with (first | (go_at_call 99; have _t := tok; clear tok; (with_reducible refine (HC1.out _ (by (try show Ex _ _); with_reducible repeat (first | exact ex_refl _ | assumption | refine ex_drewL ?_ | refine ex_appR ?_ _ | refine ex_wx ?_ _ | refine ex_drew ?_ | refine ex_alloc ?_ _))).mono ?_); rintro e w2 ⟨rfl, F2', K2, S2⟩; have F2 : FrQ p q (w.alloc (.cells (rowB 32 fun _ => 0) 46)) w2 := (Frm.ex (by (try show Ex _ _); with_reducible repeat (first | exact ex_refl _ | assumption | refine ex_drewL ?_ | refine ex_appR ?_ _ | refine ex_wx ?_ _ | refine ex_drew ?_ | refine ex_alloc ?_ _))).trans F2'; have kA2 : Ex A w2 := FrQ.exA F2 (ex_alloc kA _) hAp hAq; have zp2 := K2.lt; have zq2 := S2.lt; replace F2' := Lib.hid F2') | (go_at_call 99; (with_reducible refine (HC2.out _ (ex_trans kA2 (by (try show Ex _ _); with_reducible repeat (first | exact ex_refl _ | assumption | refine ex_drewL ?_ | refine ex_appR ?_ _ | refine ex_wx ?_ _ | refine ex_drew ?_ | refine ex_alloc ?_ _))) (K2.ex (by (try show Ex _ _); with_reducible repeat (first | exact ex_refl _ | assumption | refine ex_drewL ?_ | refine ex_appR ?_ _ | refine ex_wx ?_ _ | refine ex_drew ?_ | refine ex_alloc ?_ _))) (S2.ex (by (try show Ex _ _); with_reducible repeat (first | exact ex_refl _ | assumption | refine ex_drewL ?_ | refine ex_appR ?_ _ | refine ex_wx ?_ _ | refine ex_drew ?_ | refine ex_alloc ?_ _)))).mono ?_); rintro e w4 ⟨rfl, F4', K4, S4⟩; have F4 : FrQ p q (w.alloc (.cells (rowB 32 fun _ => 0) 46)) w4 := F2.trans ((Frm.ex (by (try show Ex _ _); with_reducible repeat (first | exact ex_refl _ | assumption | refine ex_drewL ?_ | refine ex_appR ?_ _ | refine ex_wx ?_ _ | refine ex_drew ?_ | refine ex_alloc ?_ _))).trans F4'); have kA4 : Ex A w4 := FrQ.exA F4 (ex_alloc kA _) hAp hAq; obtain ⟨n12, f12, z12, i12⟩ := frG32 (r := w2.heap.size) (cs := rowB 32 (dF x1)) F4' (IdB.new' rfl) (by intro e; rcases e with e | e <;> omega) (by simp [go_sem]) (by simp [go_sem]); replace F4' := Lib.hid F4'))
      refine wp_worldC fun W6 hW6 => ?_
      have k6 : Ex w4 W6 := by rw [← hW6]; exact (by (try show Ex _ _); with_reducible repeat (first | exact ex_refl _ | assumption | refine ex_drewL ?_ | refine ex_appR ?_ _ | refine ex_wx ?_ _ | refine ex_drew ?_ | refine ex_alloc ?_ _))
      have kA6 : Ex A W6 := ex_trans kA4 k6
      have d12 := cellsN_exF n12 z12 k6
      have d13 : cellsN W6 w4.heap.size 0 32 = some (rowB 32 (dF y1)) := by rw [← hW6]; simp [go_sem]
      have z13 : w4.heap.size < W6.heap.size := by rw [← hW6]; simp [go_sem]
      have K6 := K4.ex k6
      have S6 := S4.ex k6
      have F6 : FrQ p q (w.alloc (.cells (rowB 32 fun _ => 0) 46)) W6 := F4.trans (Frm.ex k6)
      clear hW6
      obtain ⟨r13, hr13⟩ : ∃ r, w4.heap.size = r := ⟨_, rfl⟩
      rw [hr13] at d13 z13 ⊢
      have h1213 : w2.heap.size < r13 := by omega
      obtain ⟨r12, hr12⟩ : ∃ r, w2.heap.size = r := ⟨_, rfl⟩
      rw [hr12] at d12 h1213 ⊢
      have s02 := F2.size
      rw [World.size_alloc] at s02
      have z8w : w.heap.size < W6.heap.size := by omega
      have b86 : W6.heap[w.heap.size]? = some (.cells (rowB 32 fun _ => 0) 46 (0, 0)) := (F6.same _ (by rw [World.size_alloc]; omega) (by intro e; rcases e with e | e <;> omega)).trans (heap_alloc_new _ _)
      have i8 : IdB W6 w.heap.size := ⟨_, _, b86⟩
      have F6w : FrQ p q w W6 := (Frm.ex (ex_alloc (ex_refl _) _)).trans F6
      obtain ⟨r8, hr8⟩ : ∃ r, w.heap.size = r := ⟨_, rfl⟩
      have hle8 : w.heap.size ≤ r8 := by omega
      rw [hr8] at z8w b86 i8 ⊢
      have hq8 : q ≠ r8 := by omega
      have hp8 : p ≠ r8 := by omega
      have h812 : r8 < r12 := by omega
      have hp12 : p < r12 := by omega
      have hq12 : q < r12 := by omega
      obtain ⟨n8, f8, z8⟩ := block_cellsF (n := 32) b86 (by simp)
      obtain ⟨e0, e1, e2, e3, _, e5⟩ := S6.cells
      have ew := K6.width
      have ez := K6.lt
      have z126 : r12 < W6.heap.size := by omega
      clear n12 f12 z12 i12 hr13 hr12 hr8 F4 F2 kA4 kA2 k6 F4' F2' K4 S4 K2 S2 zp2 zq2
      obtain ⟨P, hP⟩ : ∃ P : Nat → Prop, P = fun k => k = p ∨ k = r8 := ⟨_, rfl⟩
      have hPr : P r8 := by rw [hP]; exact Or.inr rfl
      have nP1 : ¬ P q := by rw [hP]; rintro (e | e) <;> omega
      have hPp : P p := by rw [hP]; exact Or.inl rfl
      have nP3 : ¬ P r12 := by rw [hP]; rintro (e | e) <;> omega
      have nP4 : ¬ P r13 := by rw [hP]; rintro (e | e) <;> omega
      have SQ : Hid (∀ w5, FrP p W6 w5 → Frm P W6 w5) := Lib.hid fun w5 F => F.mono fun b e => by rw [hP]; exact Or.inl e
      have HE := Lib.hid (fun (w5 : World) (c5 : Cl) (F5 : FrP p W6 w5) (K5 : Wk w5 p W c5) => q_endB F6w hle8 b86 S6 F5 K5 hp8 hq8 hne)
      have hb86 := Lib.hid b86
      clear hP b86
      refine wp_region_forkH (fun w' => ∃ X, w' = kq2 W6 p P X) (.look 0 (.look 1 (.look 2 (.look 3 (.look 4 (.look 5 (.look 7 (.look 8 (.look 9 (.look 10 (.look 11 (.look 12 (.look 13 (.look 14 (.look 16 (.look 17 (.look 18 (.look 19 (.look 20 (.look 21 (.look 22 (.look 23 (.eff 6 (.eff 15 (.eff 24 (.eff 25 (.eff 26 (.eff 27 .done)))))))))))))))))))))))))))) (⟨_, kq2_of (fun _ _ _ => rfl) rfl⟩) (by kernel_rfl) (by kernel_rfl) (fun _ _ d _ _ h => by cases d <;> exact h) ?_
      simp only [Fk.ops, nth]
      repeat (first | ((with_reducible refine wpForkH_look ?_); go_big_quiet_step (fail); (try (with_reducible refine wpQuiet_nil ?_))) | (with_reducible refine wpForkH_eff ?_) | ((with_reducible refine effH_F ?_ ?_); (focus rfl); go_simp) | ((with_reducible refine effH_T ?_ ?_); (focus rfl); (try dsimp only); go_wp2_with (first | (go_at_call 134; have _t := tok2; clear tok2; (with_reducible refine (H2.out _ _ _).mono ?_); rintro e w3 ⟨v4, rfl, hv4, X4, rfl⟩; (try simp only [wx_wx, wx_drew] at hv4)) | (go_at_call 78; (with_reducible refine (HTp.out _ (ex_trans kA6 (by (try show Ex _ _); with_reducible repeat (first | exact ex_refl _ | assumption | refine ex_drewL ?_ | refine ex_appR ?_ _ | refine ex_wx ?_ _ | refine ex_drew ?_ | refine ex_alloc ?_ _)))).mono ?_); rintro e w3 ⟨rfl, X7, rfl⟩) | (go_at_call 78; (with_reducible refine (HDp.out _ (ex_trans kA6 (by (try show Ex _ _); with_reducible repeat (first | exact ex_refl _ | assumption | refine ex_drewL ?_ | refine ex_appR ?_ _ | refine ex_wx ?_ _ | refine ex_drew ?_ | refine ex_alloc ?_ _)))).mono ?_); rintro e w3 ⟨rfl, X8, rfl⟩) | (go_at_call 134; (with_reducible refine (H2.out _ _ _).mono ?_); rintro e w3 ⟨v5, rfl, hv5, X5, rfl⟩; (try simp only [wx_wx, wx_drew] at hv5)) | (go_at_call 100; (with_reducible refine (HPt.out _ _ _ (ex_trans kA6 (by (try show Ex _ _); with_reducible repeat (first | exact ex_refl _ | assumption | refine ex_drewL ?_ | refine ex_appR ?_ _ | refine ex_wx ?_ _ | refine ex_drew ?_ | refine ex_alloc ?_ _))) (K6.ex (by (try show Ex _ _); with_reducible repeat (first | exact ex_refl _ | assumption | refine ex_drewL ?_ | refine ex_appR ?_ _ | refine ex_wx ?_ _ | refine ex_drew ?_ | refine ex_alloc ?_ _))) (OwnU.ex hv4 (by (try show Ex _ _); with_reducible repeat (first | exact ex_refl _ | assumption | refine ex_drewL ?_ | refine ex_appR ?_ _ | refine ex_wx ?_ _ | refine ex_drew ?_ | refine ex_alloc ?_ _))) (OwnU.ex hv5 (by (try show Ex _ _); with_reducible repeat (first | exact ex_refl _ | assumption | refine ex_drewL ?_ | refine ex_appR ?_ _ | refine ex_wx ?_ _ | refine ex_drew ?_ | refine ex_alloc ?_ _)))).mono ?_); rintro e w5 ⟨rfl, F5', K5⟩; have F5 : FrP p W6 w5 := (Frm.ex (by (try show Ex _ _); with_reducible repeat (first | exact ex_refl _ | assumption | refine ex_drewL ?_ | refine ex_appR ?_ _ | refine ex_wx ?_ _ | refine ex_drew ?_ | refine ex_alloc ?_ _))).trans F5'; obtain ⟨⟨n5, f5, z5⟩, HX⟩ := HE.out w5 _ F5 K5; replace HX := Lib.hid HX; replace F5' := Lib.hid F5'; have i58 : IdB w5 r8 := ⟨_, _, row_frm hb86.out F5 (Ne.symm hp8)⟩)); (first | done | refine mixQH_mk (⟨_, kq2F (by repeat (first | (with_reducible exact SQ.out _ F5) | (with_reducible exact Frm.refl _ _) | (with_reducible refine Frm.allocR ?_ _) | (with_reducible refine Frm.wxR ?_ _) | (with_reducible refine Frm.drewR ?_) | (with_reducible refine Frm.sets ?_ hPr _ _))) (by refine wk_zeroE K6 ?_; repeat (first | (with_reducible exact WkE.of K5) | (with_reducible exact WkE.of K6) | (with_reducible refine WkE.allocR ?_ _) | (with_reducible refine WkE.wxR ?_ _) | (with_reducible refine WkE.drewR ?_) | ((with_reducible refine WkE.setsR ?_ ?_ _ _); rotate_left; (focus ((repeat (first | (with_reducible assumption) | (with_reducible refine IdB.setsR ?_ _ _ _) | ((with_reducible refine IdB.new' ?_); (simp [go_sem]; done)) | (with_reducible refine IdB.allocR ?_ _) | (with_reducible refine IdB.wxR ?_ _) | (with_reducible refine IdB.drewR ?_))); done)))))⟩) ?_)))
      all_goals (with_reducible refine wpForkH_nil ?_)
      go_wp2
      obtain ⟨x1, x2, x3, x4⟩ := HX.out z
      exact ret_row Tryd.results99 Tryd.underlying46 rfl info_id rfl x1 rfl ⟨rfl, x2, x3, x4⟩
end Go.Proofs.YtcdocklbpfdmeaaDoor

/- Collide: the top of a span. -/
set_option linter.unusedSimpArgs false
set_option linter.unusedVariables false
set_option linter.unnecessarySimpa false
set_option maxRecDepth 20000
namespace Go.Proofs.YtcdocklbpfdmeaaDoor
open Go.RowKit
set_option maxHeartbeats 1000000 in
theorem wspan_any {w0 A : World} (G : Glob w0) (k0 : Ex w0 A) {p q W : Nat} (hW : W ≤ 256) {T : Int} {F : Nat} {ps : List Pr} {pa : Option Addr} {pc : Nat} (hPs : SlP A pa ps) (hfit : FitL ps) (hF : F ≤ 300) (hpn : ps.length ≤ 300) (hpc : ps.length ≤ pc) (hpm : pc ≤ maxLen) (hAp : A.heap.size ≤ p) (hAq : A.heap.size ≤ q) (n : Nat) :
    ∀ (at_ : Nat) (qs : List Dg) (l : List Pr) (la : Option Addr) (lc : Nat) (c : Cl) (w : World), 1 ≤ n → at_ + n ≤ 500 → (l.length = n ∨ l = []) → l.length ≤ lc → lc ≤ maxLen → SlP A la l → FitL l → Ex A w → Wk w p W c → Sp A w q p T F (.slice pa ps.length pc) qs →
    Calls Tryd.prog 99 #[.pointer (some ⟨q, 0, none⟩), I at_, I n, .slice la l.length lc] w (PostTs A p q W T F (.slice pa ps.length pc) w (spanC (sumW W) zeroD leafL F ps at_ n qs l c)) := by
  induction n using Nat.strongRecOn with
  | ind n ih =>
    intro at_ qs l la lc c w h1 hat hl hlc hlm hls hlf kA hk hs
    by_cases ho : at_ + n ≤ F ∨ F + ps.length ≤ at_
    · rw [spanC_out ho]
      exact span_out at_ n ho (by omega) (by omega) (by omega) (by omega) hpc hpm qs _ c w kA hk hs
    · by_cases hn : n < 2
      · obtain rfl : n = 1 := by omega
        obtain ⟨i, rfl⟩ : ∃ i, at_ = F + i := ⟨at_ - F, by omega⟩
        have hi : i < ps.length := by omega
        rw [spanC_one ho hn, show F + i - F = i by omega, List.getElem?_eq_getElem hi]
        exact span_one G k0 hW i ps[i] (List.getElem?_eq_getElem hi) hPs hfit (by omega) (by omega) hpc hpm qs l la lc (by rcases hl with hl | hl; omega; rw [hl]; simp) hlc hlm hls hlf c w kA hk hs hAp hAq
      · have hk1 := split_lt (n := n) (by omega)
        have hk2 := split_pos n
        have HSp := Lib.hid (fun w => split_at n w (by omega) (by omega))
        rw [spanC_two ho (by omega)]
        rcases hl with hl | rfl
        · have hne : l ≠ [] := fun e => by rw [e] at hl; simp at hl; omega
          simp only [if_neg hne]
          obtain ⟨g, off, rfl, hg, hcell⟩ := hls.pos (by omega)
          clear hcell
          have hlt : (l.take (splitN n)).length = splitN n := by rw [List.length_take]; omega
          have hld : (l.drop (splitN n)).length = n - splitN n := by rw [List.length_drop, hl]
          rw [hl]
          refine span_two1 G k0 hW at_ n (splitN n) hk1 hk2 (by omega) ho (by omega) (by omega) (by omega) hpc hpm qs lc (by omega) hlm (topC (sumW W) zeroD leafL (l.take (splitN n))) (topC (sumW W) zeroD leafL (l.drop (splitN n))) c w kA hk hs hAp hAq _ (fun qs1 c1 => spanC (sumW W) zeroD leafL F ps (at_ + splitN n) (n - splitN n) qs1 (l.drop (splitN n)) c1) HSp (Lib.hid fun w' k => ?_) (Lib.hid fun w' k => ?_) (Lib.hid fun w' k => ?_) (Lib.hid fun qs1 c1 w' k h2 h3 => ?_)
          · have := wtopP_any G W hW (l.take (splitN n)) (some ⟨g, off, none⟩) lc w' (by omega) (by omega) hlm ((hls.take _).ex k) (fun b hb => hlf b (List.mem_of_mem_take hb)) (ex_trans k0 k)
            rwa [hlt] at this
          · have := wtopP_any G W hW (l.drop (splitN n)) (some ⟨g, off + splitN n * 2, none⟩) (lc - splitN n) w' (by omega) (by omega) (by omega) ((hls.drop _).ex k) (fun b hb => hlf b (List.mem_of_mem_drop hb)) (ex_trans k0 k)
            rwa [hld] at this
          · have := ih _ hk1 at_ qs (l.take (splitN n)) (some ⟨g, off, none⟩) lc c w' hk2 (by omega) (Or.inl hlt) (by omega) hlm (hls.take _) (fun b hb => hlf b (List.mem_of_mem_take hb)) (ex_trans kA k) (hk.ex k) (hs.ex k)
            rwa [hlt] at this
          · have := ih (n - splitN n) (by omega) (at_ + splitN n) qs1 (l.drop (splitN n)) (some ⟨g, off + splitN n * 2, none⟩) (lc - splitN n) c1 w' (by omega) (by omega) (Or.inl hld) (by omega) (by omega) (hls.drop _) (fun b hb => hlf b (List.mem_of_mem_drop hb)) k h2 h3
            rw [hld, show ((n - splitN n : Nat) : Int) = (n : Int) - splitN n by omega, show ((at_ + splitN n : Nat) : Int) = (at_ : Int) + splitN n by omega] at this
            exact this
        · simp only [if_pos (rfl : ([] : List Pr) = []), List.take_nil, List.drop_nil]
          refine span_two0 G k0 hW at_ n (splitN n) hk1 hk2 (by omega) ho (by omega) (by omega) (by omega) hpc hpm qs la lc hlm c w kA hk hs hAp hAq _ (fun qs1 c1 => spanC (sumW W) zeroD leafL F ps (at_ + splitN n) (n - splitN n) qs1 [] c1) HSp (Lib.hid fun w' k => ?_) (Lib.hid fun qs1 c1 w' k h2 h3 => ?_)
          · exact ih _ hk1 at_ qs [] la lc c w' hk2 (by omega) (Or.inr rfl) hlc hlm hls hlf (ex_trans kA k) (hk.ex k) (hs.ex k)
          · have := ih (n - splitN n) (by omega) (at_ + splitN n) qs1 [] la lc c1 w' (by omega) (by omega) (Or.inr rfl) hlc hlm hls hlf k h2 h3
            rw [show ((n - splitN n : Nat) : Int) = (n : Int) - splitN n by omega, show ((at_ + splitN n : Nat) : Int) = (at_ : Int) + splitN n by omega] at this
            exact this
end Go.Proofs.YtcdocklbpfdmeaaDoor
