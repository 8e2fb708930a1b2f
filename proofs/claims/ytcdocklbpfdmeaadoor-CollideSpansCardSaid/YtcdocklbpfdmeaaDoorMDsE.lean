import Derived.Test.YtcdocklbpfdmeaaDoorMDsB
import Derived.Test.YtcdocklbpfdmeaaDoorMCoE

/- Collide's document: the top of a span: two halves that are there. -/
set_option linter.unusedSimpArgs false
set_option linter.unusedVariables false
set_option linter.unnecessarySimpa false
set_option maxRecDepth 20000
namespace Go.Proofs.YtcdocklbpfdmeaaDoor
open Go.RowKit
set_option maxHeartbeats 2000000 in
theorem dspan_two1 {A : World} {p q W : Nat} (hW : W ≤ 256) {T : Int} {F : Nat} {pa : Option Addr} {pn pc : Nat} {qv : Value} (hqv : qv.oneCell' = true) (at_ n k : Nat) (hk1 : k < n) (hk2 : 1 ≤ k) (hn2 : 2 ≤ n) (ho : ¬ (at_ + n ≤ F ∨ F + pn ≤ at_)) (h1 : at_ + n ≤ 1000) (h3 : F ≤ 1000) (h4 : pn ≤ 1000) (h5 : pn ≤ pc) (h6 : pc ≤ maxLen) (qs : List Dg) {g off : Nat} (lc : Nat) (hlc : n ≤ lc) (hlm : lc ≤ maxLen) (hT hD : Dg) (c : Cl) (w : World) (kA : Ex A w) (hk : Cd w p c) (hs : Qd A w q qs) (hAp : A.heap.size ≤ p) (hAq : A.heap.size ≤ q)
    (o1 : Option (Dg × List Dg × Cl)) (f2 : List Dg → Cl → Option (Dg × List Dg × Cl))
    (HSp : Hid (∀ w, Calls Tryd.prog 80 #[I n] w (fun e w' => e = .returned (I k) ∧ w = w')))
    (HTp : Hid (∀ w', Ex A w' → Calls Tryd.prog 83 #[I W, .slice (some ⟨g, off, none⟩) k lc] w' (Post w' (.agg (rowB 32 (dF hT))))))
    (HDp : Hid (∀ w', Ex A w' → Calls Tryd.prog 83 #[I W, .slice (some ⟨g, off + k * 2, none⟩) ((n - k : Nat)) (lc - k)] w' (Post w' (.agg (rowB 32 (dF hD))))))
    (HC1 : Hid (∀ w', Ex w w' → Calls Tryd.prog 91 #[I W, .agg #[I T, I F, .slice pa pn pc, qv], I at_, I k, .pointer (some ⟨q, 0, none⟩), .slice (some ⟨g, off, none⟩) k lc, .pointer (some ⟨p, 0, none⟩)] w' (PostDT A p q w' o1)))
    (HC2 : Hid (∀ qs1 c1 w', Ex A w' → Cd w' p c1 → Qd A w' q qs1 → Calls Tryd.prog 91 #[I W, .agg #[I T, I F, .slice pa pn pc, qv], I ((at_ : Int) + k), I ((n : Int) - k), .pointer (some ⟨q, 0, none⟩), .slice (some ⟨g, off + k * 2, none⟩) ((n - k : Nat)) (lc - k), .pointer (some ⟨p, 0, none⟩)] w' (PostDT A p q w' (f2 qs1 c1)))) :
    Calls Tryd.prog 91 #[I W, .agg #[I T, I F, .slice pa pn pc, qv], I at_, I n, .pointer (some ⟨q, 0, none⟩), .slice (some ⟨g, off, none⟩) n lc, .pointer (some ⟨p, 0, none⟩)] w (PostDT A p q w (o1.bind fun x => (f2 x.2.1 x.2.2).map fun y => ((putH (sumW W) (twoL x.1 y.1) (some (twoL hT hD)) y.2.2).1, y.2.1, (putH (sumW W) (twoL x.1 y.1) (some (twoL hT hD)) y.2.2).2))) := by
  have hne := hs.ne hk
  have hpw := hk.lt
  have hqw := hs.lt
  have t1 : decide ((at_ : Int) + n ≤ F) = false := decide_eq_false (by omega)
  have t2 : decide ((F : Int) + pn ≤ at_) = false := decide_eq_false (by omega)
  have t3 : ((n : Int) == 1) = false := beq_eq_false_iff_ne.2 (by omega)
  have h5' : (pn : Int) ≤ pc := by omega
  have hkn : (k : Int) ≤ n := by omega
  have hkl : (k : Int) ≤ lc := by omega
  have hnl : (n : Int) ≤ lc := by omega
  have hnk : ¬ lc = k := by omega
  have hnp : decide ((0 : Int) < n) = true := decide_eq_true (by omega)
  have hnp2 : decide (0 < n) = true := decide_eq_true (by omega)
  have hn0 : ((n - k : Nat) : Int) = (n : Int) - k := by omega
  unfold maxLen at h6 hlm
  clear hs hk ho
  cases o1 with
  | none =>
    have e0 : ((none : Option (Dg × List Dg × Cl)).bind fun x => (f2 x.2.1 x.2.2).map fun y => ((putH (sumW W) (twoL x.1 y.1) (some (twoL hT hD)) y.2.2).1, y.2.1, (putH (sumW W) (twoL x.1 y.1) (some (twoL hT hD)) y.2.2).2)) = none := rfl
    rw [e0]
    replace HC1 : Hid (∀ w', Ex w w' → Calls Tryd.prog 91 #[I W, .agg #[I T, I F, .slice pa pn pc, qv], I at_, I k, .pointer (some ⟨q, 0, none⟩), .slice (some ⟨g, off, none⟩) k lc, .pointer (some ⟨p, 0, none⟩)] w' (fun e w2 => e = .returned (.tuple #[.agg (rowB 32 fun _ => 0), .bool false]) ∧ FrQ p q w' w2)) := HC1
    clear HC2
    go_enter Tryd.func91, Tryd.ntmps91
    go_wp2_with (go_at_call 80; (with_reducible refine (HSp.out _).mono ?_); rintro e w' ⟨rfl, rfl⟩)
    refine wp_region_seq [(0, true), (1, true), (2, true), (3, true), (4, true), (5, true), (6, true), (7, true)] (by kernel_rfl) (by kernel_rfl) (fun _ _ d _ _ h => by cases d <;> exact h) ?_
    simp only [List.map_cons, List.map_nil, nth]
    repeat (first | ((with_reducible refine wpSeq_look ?_); go_big_quiet_step (fail); (with_reducible refine wpQuiet_nil ?_)) | ((with_reducible refine wpSeq_effF ?_ ?_); (focus rfl); go_simp) | ((with_reducible refine wpSeq_eff ?_ ?_); (focus rfl); (try dsimp only); go_wp2_with (fail); refine mixQ_mk (by (try show Ex _ _); with_reducible repeat (first | exact ex_refl _ | assumption | refine ex_drewL ?_ | refine ex_appR ?_ _ | refine ex_wx ?_ _ | refine ex_drew ?_ | refine ex_alloc ?_ _)) ?_))
    refine wpSeq_nil ?_
    go_wp2_with (first | (go_at_call 91; (with_reducible refine (HC1.out _ (by (try show Ex _ _); with_reducible repeat (first | exact ex_refl _ | assumption | refine ex_drewL ?_ | refine ex_appR ?_ _ | refine ex_wx ?_ _ | refine ex_drew ?_ | refine ex_alloc ?_ _))).mono ?_); rintro e w2 ⟨rfl, F2'⟩; have F2 : FrQ p q ((w.alloc (.cells #[I T, I F, .slice pa pn pc, qv] 27)).alloc (.cells (rowB 32 fun _ => 0) 46)) w2 := (Frm.ex (by (try show Ex _ _); with_reducible repeat (first | exact ex_refl _ | assumption | refine ex_drewL ?_ | refine ex_appR ?_ _ | refine ex_wx ?_ _ | refine ex_drew ?_ | refine ex_alloc ?_ _))).trans F2'; obtain ⟨b8, z8, n14, f14, z14, F9, _⟩ := dspan_keep hpw hqw rfl F2; replace F2' := Lib.hid F2'))
    exact ret_rowV (cs := rowB 32 fun _ => 0) (v := .bool false) Tryd.results91 Tryd.underlying46 rfl info_id rfl (by simp [go_sem, n14, z14]) rfl rfl ⟨rfl, (by repeat (first | (with_reducible exact F9) | (with_reducible exact Frm.refl _ _) | (with_reducible refine Frm.allocR ?_ _) | (with_reducible refine Frm.wxR ?_ _) | (with_reducible refine Frm.drewR ?_) | ((with_reducible refine Frm.setsNew ?_ ?_ _ _); rotate_left; (focus omega))))⟩
  | some x =>
    obtain ⟨x1, qs1, c1'⟩ := x
    replace HC1 : Hid (∀ w', Ex w w' → Calls Tryd.prog 91 #[I W, .agg #[I T, I F, .slice pa pn pc, qv], I at_, I k, .pointer (some ⟨q, 0, none⟩), .slice (some ⟨g, off, none⟩) k lc, .pointer (some ⟨p, 0, none⟩)] w' (fun e w2 => e = .returned (.tuple #[.agg (rowB 32 (dF x1)), .bool true]) ∧ FrQ p q w' w2 ∧ Cd w2 p c1' ∧ Qd A w2 q qs1)) := HC1
    have HC2' := Lib.hid (HC2.out qs1 c1')
    have e0 : ((some (x1, qs1, c1')).bind fun x => (f2 x.2.1 x.2.2).map fun y => ((putH (sumW W) (twoL x.1 y.1) (some (twoL hT hD)) y.2.2).1, y.2.1, (putH (sumW W) (twoL x.1 y.1) (some (twoL hT hD)) y.2.2).2)) = (f2 qs1 c1').map fun y => ((putC (sumW W) (twoL x1 y.1) (twoL hT hD) y.2.2).1, y.2.1, (putC (sumW W) (twoL x1 y.1) (twoL hT hD) y.2.2).2) := rfl
    rw [e0]
    generalize f2 qs1 c1' = o2 at HC2' ⊢
    clear HC2 e0
    have tok : True := trivial
    cases o2 with
    | none =>
      rw [Option.map_none]
      have HC2 : Hid (∀ w', Ex A w' → Cd w' p c1' → Qd A w' q qs1 → Calls Tryd.prog 91 #[I W, .agg #[I T, I F, .slice pa pn pc, qv], I ((at_ : Int) + k), I ((n : Int) - k), .pointer (some ⟨q, 0, none⟩), .slice (some ⟨g, off + k * 2, none⟩) ((n - k : Nat)) (lc - k), .pointer (some ⟨p, 0, none⟩)] w' (fun e w2 => e = .returned (.tuple #[.agg (rowB 32 fun _ => 0), .bool false]) ∧ FrQ p q w' w2)) := HC2'
      clear HC2'
      go_enter Tryd.func91, Tryd.ntmps91
      go_wp2_with (go_at_call 80; (with_reducible refine (HSp.out _).mono ?_); rintro e w' ⟨rfl, rfl⟩)
      refine wp_region_seq [(0, true), (1, true), (2, true), (3, true), (4, true), (5, true), (6, true), (7, true)] (by kernel_rfl) (by kernel_rfl) (fun _ _ d _ _ h => by cases d <;> exact h) ?_
      simp only [List.map_cons, List.map_nil, nth]
      repeat (first | ((with_reducible refine wpSeq_look ?_); go_big_quiet_step (fail); (with_reducible refine wpQuiet_nil ?_)) | ((with_reducible refine wpSeq_effF ?_ ?_); (focus rfl); go_simp) | ((with_reducible refine wpSeq_eff ?_ ?_); (focus rfl); (try dsimp only); go_wp2_with (fail); refine mixQ_mk (by (try show Ex _ _); with_reducible repeat (first | exact ex_refl _ | assumption | refine ex_drewL ?_ | refine ex_appR ?_ _ | refine ex_wx ?_ _ | refine ex_drew ?_ | refine ex_alloc ?_ _)) ?_))
      refine wpSeq_nil ?_
      go_wp2_with (first | (go_at_call 91; have _t := tok; clear tok; (with_reducible refine (HC1.out _ (by (try show Ex _ _); with_reducible repeat (first | exact ex_refl _ | assumption | refine ex_drewL ?_ | refine ex_appR ?_ _ | refine ex_wx ?_ _ | refine ex_drew ?_ | refine ex_alloc ?_ _))).mono ?_); rintro e w2 ⟨rfl, F2', K2, S2⟩; have F2 : FrQ p q ((w.alloc (.cells #[I T, I F, .slice pa pn pc, qv] 27)).alloc (.cells (rowB 32 fun _ => 0) 46)) w2 := (Frm.ex (by (try show Ex _ _); with_reducible repeat (first | exact ex_refl _ | assumption | refine ex_drewL ?_ | refine ex_appR ?_ _ | refine ex_wx ?_ _ | refine ex_drew ?_ | refine ex_alloc ?_ _))).trans F2'; have kA2 : Ex A w2 := FrQ.exA F2 (ex_alloc (ex_alloc kA _) _) hAp hAq; have zp2 := K2.lt; have zq2 := S2.lt; obtain ⟨b8, z8, n14, f14, z14, F9, _⟩ := dspan_keep hpw hqw rfl F2; replace F2' := Lib.hid F2') | (go_at_call 91; (with_reducible refine (HC2.out _ (ex_trans kA2 (by (try show Ex _ _); with_reducible repeat (first | exact ex_refl _ | assumption | refine ex_drewL ?_ | refine ex_appR ?_ _ | refine ex_wx ?_ _ | refine ex_drew ?_ | refine ex_alloc ?_ _))) (K2.ex (by (try show Ex _ _); with_reducible repeat (first | exact ex_refl _ | assumption | refine ex_drewL ?_ | refine ex_appR ?_ _ | refine ex_wx ?_ _ | refine ex_drew ?_ | refine ex_alloc ?_ _))) (S2.ex (by (try show Ex _ _); with_reducible repeat (first | exact ex_refl _ | assumption | refine ex_drewL ?_ | refine ex_appR ?_ _ | refine ex_wx ?_ _ | refine ex_drew ?_ | refine ex_alloc ?_ _)))).mono ?_); rintro e w4 ⟨rfl, F4'⟩; have F4 : FrQ p q ((w.alloc (.cells #[I T, I F, .slice pa pn pc, qv] 27)).alloc (.cells (rowB 32 fun _ => 0) 46)) w4 := F2.trans ((Frm.ex (by (try show Ex _ _); with_reducible repeat (first | exact ex_refl _ | assumption | refine ex_drewL ?_ | refine ex_appR ?_ _ | refine ex_wx ?_ _ | refine ex_drew ?_ | refine ex_alloc ?_ _))).trans F4'); clear b8 z8 n14 f14 z14 F9; obtain ⟨b8, z8, n14, f14, z14, F9, _⟩ := dspan_keep hpw hqw rfl F4; replace F4' := Lib.hid F4'))
      exact ret_rowV (cs := rowB 32 fun _ => 0) (v := .bool false) Tryd.results91 Tryd.underlying46 rfl info_id rfl (by simp [go_sem, n14, z14]) rfl rfl ⟨rfl, (by repeat (first | (with_reducible exact F9) | (with_reducible exact Frm.refl _ _) | (with_reducible refine Frm.allocR ?_ _) | (with_reducible refine Frm.wxR ?_ _) | (with_reducible refine Frm.drewR ?_) | ((with_reducible refine Frm.setsNew ?_ ?_ _ _); rotate_left; (focus omega))))⟩
    | some y =>
      obtain ⟨y1, qs2, c2'⟩ := y
      rw [Option.map_some]
      have HC2 : Hid (∀ w', Ex A w' → Cd w' p c1' → Qd A w' q qs1 → Calls Tryd.prog 91 #[I W, .agg #[I T, I F, .slice pa pn pc, qv], I ((at_ : Int) + k), I ((n : Int) - k), .pointer (some ⟨q, 0, none⟩), .slice (some ⟨g, off + k * 2, none⟩) ((n - k : Nat)) (lc - k), .pointer (some ⟨p, 0, none⟩)] w' (fun e w2 => e = .returned (.tuple #[.agg (rowB 32 (dF y1)), .bool true]) ∧ FrQ p q w' w2 ∧ Cd w2 p c2' ∧ Qd A w2 q qs2)) := HC2'
      clear HC2'
      have H2 := Lib.hid (fun a b w => reftwo_any a b w)
      have HPt : Hid (∀ w' v u, Cd w' p c2' → OwnU w' v (twoL x1 y1) → OwnU w' u (twoL hT hD) → Calls Tryd.prog 92 #[I W, v, u, .pointer (some ⟨p, 0, none⟩)] w' (PostD p w' (.agg (rowB 32 (dF (putC (sumW W) (twoL x1 y1) (twoL hT hD) c2').1))) (putC (sumW W) (twoL x1 y1) (twoL hT hD) c2').2)) :=
        Lib.hid fun w' v u h0 h1 h2 => step_any W hW h0 h1 h2 (by rw [twoL_len]; omega) (by rw [twoL_len]; omega)
      unfold PostDT
      simp only
      generalize putC (sumW W) (twoL x1 y1) (twoL hT hD) c2' = o at HPt ⊢
      obtain ⟨z, c'⟩ := o
      simp only at HPt ⊢
      have tokA : True := trivial
      have tokB : True := trivial
      go_enter Tryd.func91, Tryd.ntmps91
      go_wp2_with (go_at_call 80; (with_reducible refine (HSp.out _).mono ?_); rintro e w' ⟨rfl, rfl⟩)
      refine wp_region_seq [(0, true), (1, true), (2, true), (3, true), (4, true), (5, true), (6, true), (7, true)] (by kernel_rfl) (by kernel_rfl) (fun _ _ d _ _ h => by cases d <;> exact h) ?_
      simp only [List.map_cons, List.map_nil, nth]
      repeat (first | ((with_reducible refine wpSeq_look ?_); go_big_quiet_step (fail); (with_reducible refine wpQuiet_nil ?_)) | ((with_reducible refine wpSeq_effF ?_ ?_); (focus rfl); go_simp) | ((with_reducible refine wpSeq_eff ?_ ?_); (focus rfl); (try dsimp only); go_wp2_with (fail); refine mixQ_mk (by (try show Ex _ _); with_reducible repeat (first | exact ex_refl _ | assumption | refine ex_drewL ?_ | refine ex_appR ?_ _ | refine ex_wx ?_ _ | refine ex_drew ?_ | refine ex_alloc ?_ _)) ?_))
      refine wpSeq_nil ?_
      go_wp2_with (first | (go_at_call 91; have _t := tok; clear tok; (with_reducible refine (HC1.out _ (by (try show Ex _ _); with_reducible repeat (first | exact ex_refl _ | assumption | refine ex_drewL ?_ | refine ex_appR ?_ _ | refine ex_wx ?_ _ | refine ex_drew ?_ | refine ex_alloc ?_ _))).mono ?_); rintro e w2 ⟨rfl, F2', K2, S2⟩; have F2 : FrQ p q ((w.alloc (.cells #[I T, I F, .slice pa pn pc, qv] 27)).alloc (.cells (rowB 32 fun _ => 0) 46)) w2 := (Frm.ex (by (try show Ex _ _); with_reducible repeat (first | exact ex_refl _ | assumption | refine ex_drewL ?_ | refine ex_appR ?_ _ | refine ex_wx ?_ _ | refine ex_drew ?_ | refine ex_alloc ?_ _))).trans F2'; have kA2 : Ex A w2 := FrQ.exA F2 (ex_alloc (ex_alloc kA _) _) hAp hAq; have zp2 := K2.lt; have zq2 := S2.lt; obtain ⟨b8, z8, n14, f14, z14, F9, _⟩ := dspan_keep hpw hqw rfl F2; replace F2' := Lib.hid F2') | (go_at_call 91; (with_reducible refine (HC2.out _ (ex_trans kA2 (by (try show Ex _ _); with_reducible repeat (first | exact ex_refl _ | assumption | refine ex_drewL ?_ | refine ex_appR ?_ _ | refine ex_wx ?_ _ | refine ex_drew ?_ | refine ex_alloc ?_ _))) (K2.ex (by (try show Ex _ _); with_reducible repeat (first | exact ex_refl _ | assumption | refine ex_drewL ?_ | refine ex_appR ?_ _ | refine ex_wx ?_ _ | refine ex_drew ?_ | refine ex_alloc ?_ _))) (S2.ex (by (try show Ex _ _); with_reducible repeat (first | exact ex_refl _ | assumption | refine ex_drewL ?_ | refine ex_appR ?_ _ | refine ex_wx ?_ _ | refine ex_drew ?_ | refine ex_alloc ?_ _)))).mono ?_); rintro e w4 ⟨rfl, F4', K4, S4⟩; have F4 : FrQ p q ((w.alloc (.cells #[I T, I F, .slice pa pn pc, qv] 27)).alloc (.cells (rowB 32 fun _ => 0) 46)) w4 := F2.trans ((Frm.ex (by (try show Ex _ _); with_reducible repeat (first | exact ex_refl _ | assumption | refine ex_drewL ?_ | refine ex_appR ?_ _ | refine ex_wx ?_ _ | refine ex_drew ?_ | refine ex_alloc ?_ _))).trans F4'); have kA4 : Ex A w4 := FrQ.exA F4 (ex_alloc (ex_alloc kA _) _) hAp hAq; obtain ⟨n12, f12, z12, i12⟩ := frG32 (r := w2.heap.size) (cs := rowB 32 (dF x1)) F4' (IdB.new' rfl) (by intro e; rcases e with e | e <;> omega) (by simp [go_sem]) (by simp [go_sem]); clear b8 z8 n14 f14 z14 F9; obtain ⟨b8, z8, n14, f14, z14, F9, b14⟩ := dspan_keep hpw hqw rfl F4; have HE := Lib.hid fun w5 c5 (F5 : FrP p w4 w5) (K5 : Cd w5 p c5) => dq_end2 F9 (Nat.le_succ _) b14 S4 (by omega) (by omega) hne F5 K5; replace F4' := Lib.hid F4'; clear b14 n14 f14) | (go_at_call 81; have _t := tokA; clear tokA; (with_reducible refine (H2.out _ _ _).mono ?_); rintro e w3 ⟨v4, rfl, hv4, X4, rfl⟩; (try simp only [wx_wx, wx_drew] at hv4)) | (go_at_call 83; (with_reducible refine (HTp.out _ (ex_trans kA4 (by (try show Ex _ _); with_reducible repeat (first | exact ex_refl _ | assumption | refine ex_drewL ?_ | refine ex_appR ?_ _ | refine ex_wx ?_ _ | refine ex_drew ?_ | refine ex_alloc ?_ _)))).mono ?_); rintro e w3 ⟨rfl, X7, rfl⟩) | (go_at_call 83; (with_reducible refine (HDp.out _ (ex_trans kA4 (by (try show Ex _ _); with_reducible repeat (first | exact ex_refl _ | assumption | refine ex_drewL ?_ | refine ex_appR ?_ _ | refine ex_wx ?_ _ | refine ex_drew ?_ | refine ex_alloc ?_ _)))).mono ?_); rintro e w3 ⟨rfl, X8, rfl⟩) | (go_at_call 81; have _t := tokB; clear tokB; (with_reducible refine (H2.out _ _ _).mono ?_); rintro e w3 ⟨v6, rfl, hv6, X6, rfl⟩; (try simp only [wx_wx, wx_drew] at hv6)) | (go_at_call 81; (with_reducible refine (H2.out _ _ _).mono ?_); rintro e w3 ⟨v5, rfl, hv5, X5, rfl⟩; (try simp only [wx_wx, wx_drew] at hv5)) | (go_at_call 92; (with_reducible refine (HPt.out _ _ _ (K4.ex (by (try show Ex _ _); with_reducible repeat (first | exact ex_refl _ | assumption | refine ex_drewL ?_ | refine ex_appR ?_ _ | refine ex_wx ?_ _ | refine ex_drew ?_ | refine ex_alloc ?_ _))) (OwnU.ex hv5 (by (try show Ex _ _); with_reducible repeat (first | exact ex_refl _ | assumption | refine ex_drewL ?_ | refine ex_appR ?_ _ | refine ex_wx ?_ _ | refine ex_drew ?_ | refine ex_alloc ?_ _))) (OwnU.ex hv6 (by (try show Ex _ _); with_reducible repeat (first | exact ex_refl _ | assumption | refine ex_drewL ?_ | refine ex_appR ?_ _ | refine ex_wx ?_ _ | refine ex_drew ?_ | refine ex_alloc ?_ _)))).mono ?_); rintro e w5 ⟨rfl, F5', K5⟩; obtain ⟨⟨n5, f5, z5⟩, HX⟩ := HE.out w5 _ ((Frm.ex (by (try show Ex _ _); with_reducible repeat (first | exact ex_refl _ | assumption | refine ex_drewL ?_ | refine ex_appR ?_ _ | refine ex_wx ?_ _ | refine ex_drew ?_ | refine ex_alloc ?_ _))).trans F5') K5; replace HX := Lib.hid HX; replace F5' := Lib.hid F5'))
      obtain ⟨x1', x2', x3', x4'⟩ := HX.out z
      exact ret_rowV (v := .bool true) Tryd.results91 Tryd.underlying46 rfl info_id rfl x1' rfl rfl ⟨rfl, x2', x3', x4'⟩
end Go.Proofs.YtcdocklbpfdmeaaDoor

/- Collide's document: the top of a span. -/
set_option linter.unusedSimpArgs false
set_option linter.unusedVariables false
set_option linter.unnecessarySimpa false
set_option maxRecDepth 20000
namespace Go.Proofs.YtcdocklbpfdmeaaDoor
open Go.RowKit
set_option maxHeartbeats 1000000 in
theorem dspan_any {A : World} {p q W : Nat} (hW : W ≤ 256) {T : Int} {F : Nat} {ps : List Pr} {pa : Option Addr} {pc : Nat} {qv : Value} (hqv : qv.oneCell' = true) (hPs : SlP A pa ps) (hfit : FitL ps) (hF : F ≤ 300) (hpn : ps.length ≤ 300) (hpc : ps.length ≤ pc) (hpm : pc ≤ maxLen) (hAp : A.heap.size ≤ p) (hAq : A.heap.size ≤ q) (n : Nat) :
    ∀ (at_ : Nat) (qs : List Dg) (l : List Pr) (la : Option Addr) (lc : Nat) (c : Cl) (w : World), 1 ≤ n → at_ + n ≤ 500 → (l.length = n ∨ l = []) → l.length ≤ lc → lc ≤ maxLen → SlP A la l → FitL l → Ex A w → Cd w p c → Qd A w q qs →
    Calls Tryd.prog 91 #[I W, .agg #[I T, I F, .slice pa ps.length pc, qv], I at_, I n, .pointer (some ⟨q, 0, none⟩), .slice la l.length lc, .pointer (some ⟨p, 0, none⟩)] w (PostDT A p q w (spanC (sumW W) zeroD leafL F ps at_ n qs l c)) := by
  induction n using Nat.strongRecOn with
  | ind n ih =>
    intro at_ qs l la lc c w h1 hat hl hlc hlm hls hlf kA hk hs
    by_cases ho : at_ + n ≤ F ∨ F + ps.length ≤ at_
    · rw [spanC_out ho]
      exact dspan_out hqv at_ n ho (by omega) (by omega) (by omega) (by omega) hpc hpm qs _ rfl c w kA hk hs
    · by_cases hn : n < 2
      · obtain rfl : n = 1 := by omega
        obtain ⟨i, rfl⟩ : ∃ i, at_ = F + i := ⟨at_ - F, by omega⟩
        have hi : i < ps.length := by omega
        rw [spanC_one ho hn, show F + i - F = i by omega, List.getElem?_eq_getElem hi]
        exact dspan_one hW hqv i ps[i] (List.getElem?_eq_getElem hi) hPs hfit (by omega) (by omega) hpc hpm qs l la lc (by rcases hl with hl | hl; omega; rw [hl]; simp) hlc hlm hls hlf c w kA hk hs
      · have hk1 := split_lt (n := n) (by omega)
        have hk2 := split_pos n
        have HSp := Lib.hid (fun w => refsplit_at n w (by omega) (by omega))
        rw [spanC_two ho (by omega)]
        rcases hl with hl | rfl
        · have hne : l ≠ [] := fun e => by rw [e] at hl; simp at hl; omega
          simp only [if_neg hne]
          obtain ⟨g, off, rfl, hg, hcell⟩ := hls.pos (by omega)
          clear hcell
          have hlt : (l.take (splitN n)).length = splitN n := by rw [List.length_take]; omega
          have hld : (l.drop (splitN n)).length = n - splitN n := by rw [List.length_drop, hl]
          rw [hl]
          refine dspan_two1 hW hqv at_ n (splitN n) hk1 hk2 (by omega) ho (by omega) (by omega) (by omega) hpc hpm qs lc (by omega) hlm (topC (sumW W) zeroD leafL (l.take (splitN n))) (topC (sumW W) zeroD leafL (l.drop (splitN n))) c w kA hk hs hAp hAq _ (fun qs1 c1 => spanC (sumW W) zeroD leafL F ps (at_ + splitN n) (n - splitN n) qs1 (l.drop (splitN n)) c1) HSp (Lib.hid fun w' k => ?_) (Lib.hid fun w' k => ?_) (Lib.hid fun w' k => ?_) (Lib.hid fun qs1 c1 w' k h2 h3 => ?_)
          · exact reftopN_any W hW (splitN n) (l.take (splitN n)) (some ⟨g, off, none⟩) lc w' hlt (by omega) (by omega) hlm ((hls.take _).ex k) (fun b hb => hlf b (List.mem_of_mem_take hb))
          · exact reftopN_any W hW (n - splitN n) (l.drop (splitN n)) (some ⟨g, off + splitN n * 2, none⟩) (lc - splitN n) w' hld (by omega) (by omega) (by omega) ((hls.drop _).ex k) (fun b hb => hlf b (List.mem_of_mem_drop hb))
          · have := ih _ hk1 at_ qs (l.take (splitN n)) (some ⟨g, off, none⟩) lc c w' hk2 (by omega) (Or.inl hlt) (by omega) hlm (hls.take _) (fun b hb => hlf b (List.mem_of_mem_take hb)) (ex_trans kA k) (hk.ex k) (hs.ex k)
            rwa [hlt] at this
          · have := ih (n - splitN n) (by omega) (at_ + splitN n) qs1 (l.drop (splitN n)) (some ⟨g, off + splitN n * 2, none⟩) (lc - splitN n) c1 w' (by omega) (by omega) (Or.inl hld) (by omega) (by omega) (hls.drop _) (fun b hb => hlf b (List.mem_of_mem_drop hb)) k h2 h3
            rw [hld, show ((n - splitN n : Nat) : Int) = (n : Int) - splitN n by omega, show ((at_ + splitN n : Nat) : Int) = (at_ : Int) + splitN n by omega] at this
            exact this
        · simp only [if_pos (rfl : ([] : List Pr) = []), List.take_nil, List.drop_nil]
          refine dspan_two0 hW hqv at_ n (splitN n) hk1 hk2 (by omega) ho (by omega) (by omega) (by omega) hpc hpm qs la lc hlm c w kA hk hs hAp hAq _ (fun qs1 c1 => spanC (sumW W) zeroD leafL F ps (at_ + splitN n) (n - splitN n) qs1 [] c1) HSp (Lib.hid fun w' k => ?_) (Lib.hid fun qs1 c1 w' k h2 h3 => ?_)
          · exact ih _ hk1 at_ qs [] none 0 c w' hk2 (by omega) (Or.inr rfl) (Nat.le_refl _) (by unfold maxLen; omega) (SlP.nil _ _) (fun b hb => by cases hb) (ex_trans kA k) (hk.ex k) (hs.ex k)
          · have := ih (n - splitN n) (by omega) (at_ + splitN n) qs1 [] none 0 c1 w' (by omega) (by omega) (Or.inr rfl) (Nat.le_refl _) (by unfold maxLen; omega) (SlP.nil _ _) (fun b hb => by cases hb) k h2 h3
            rw [show ((n - splitN n : Nat) : Int) = (n : Int) - splitN n by omega, show ((at_ + splitN n : Nat) : Int) = (at_ : Int) + splitN n by omega] at this
            exact this
end Go.Proofs.YtcdocklbpfdmeaaDoor
