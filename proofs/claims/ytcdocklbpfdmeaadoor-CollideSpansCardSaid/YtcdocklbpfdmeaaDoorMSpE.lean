import Derived.Test.YtcdocklbpfdmeaaDoorMSpB

/- Collide: the top of a span: two halves, none of them there. -/
set_option linter.unusedSimpArgs false
set_option linter.unusedVariables false
set_option linter.unnecessarySimpa false
set_option maxRecDepth 20000
namespace Go.Proofs.YtcdocklbpfdmeaaDoor
open Go.RowKit
theorem Sp.allocR {A w : World} {q p : Nat} {T F : Int} {pv : Value} {qs : List Dg} (h : Sp A w q p T F pv qs) (o : Obj) : Sp A (w.alloc o) q p T F pv qs := h.ex (ex_alloc (ex_refl _) _)
theorem Sp.wxR {A w : World} {q p : Nat} {T F : Int} {pv : Value} {qs : List Dg} (h : Sp A w q p T F pv qs) (X : More) : Sp A (wx w X) q p T F pv qs := h.ex ⟨X, rfl⟩
theorem Sp.drewR {A w : World} {q p : Nat} {T F : Int} {pv : Value} {qs : List Dg} (h : Sp A w q p T F pv qs) : Sp A w.drew q p T F pv qs := h.ex (ex_drew (ex_refl _))
theorem Sp.setsR {A w : World} {q p : Nat} {T F : Int} {pv : Value} {qs : List Dg} (h : Sp A w q p T F pv qs) {r : Nat} (hr : q ≠ r) (o : Nat) (vs : List Value) : Sp A (w.setCells r o vs) q p T F pv qs := h.frm (frm_sets (r := r) o vs) hr
/-- What lies below both blocks is there still. -/
theorem FrQ.exA {A w w' : World} {p q : Nat} (h : FrQ p q w w') (k : Ex A w) (hp : A.heap.size ≤ p) (hq : A.heap.size ≤ q) : Ex A w' := by
  have hb := ex_below k
  refine ex_of_below ⟨h.os.trans hb.os, h.tape.trans hb.tape, h.output.trans hb.output, Nat.le_trans hb.size h.size, fun b hlt => ?_⟩
  exact (h.same b (Nat.lt_of_lt_of_le hlt hb.size) (by rintro (e | e) <;> omega)).trans (hb.block b hlt)
set_option maxHeartbeats 2000000 in
theorem span_two0 {w0 A : World} (G : Glob w0) (k0 : Ex w0 A) {p q W : Nat} (hW : W ≤ 256) {T : Int} {F : Nat} {pa : Option Addr} {pn pc : Nat} (at_ n k : Nat) (hk1 : k < n) (hk2 : 1 ≤ k) (hn2 : 2 ≤ n) (ho : ¬ (at_ + n ≤ F ∨ F + pn ≤ at_)) (h1 : at_ + n ≤ 1000) (h3 : F ≤ 1000) (h4 : pn ≤ 1000) (h5 : pn ≤ pc) (h6 : pc ≤ maxLen) (qs : List Dg) (la : Option Addr) (lc : Nat) (hlm : lc ≤ maxLen) (c : Cl) (w : World) (kA : Ex A w) (hk : Wk w p W c) (hs : Sp A w q p T F (.slice pa pn pc) qs) (hAp : A.heap.size ≤ p) (hAq : A.heap.size ≤ q)
    (o1 : Option (Dg × List Dg × Cl)) (f2 : List Dg → Cl → Option (Dg × List Dg × Cl))
    (HSp : Hid (∀ w, Calls Tryd.prog 133 #[I n] w (fun e w' => e = .returned (I k) ∧ w = w')))
    (HC1 : Hid (∀ w', Ex w w' → Calls Tryd.prog 99 #[.pointer (some ⟨q, 0, none⟩), I at_, I k, .slice la 0 lc] w' (PostTs A p q W T F (.slice pa pn pc) w' o1)))
    (HC2 : Hid (∀ qs1 c1 w', Ex A w' → Wk w' p W c1 → Sp A w' q p T F (.slice pa pn pc) qs1 → Calls Tryd.prog 99 #[.pointer (some ⟨q, 0, none⟩), I ((at_ : Int) + k), I ((n : Int) - k), .slice la 0 lc] w' (PostTs A p q W T F (.slice pa pn pc) w' (f2 qs1 c1)))) :
    Calls Tryd.prog 99 #[.pointer (some ⟨q, 0, none⟩), I at_, I n, .slice la 0 lc] w (PostTs A p q W T F (.slice pa pn pc) w (o1.bind fun x => (f2 x.2.1 x.2.2).map fun y => ((putH (sumW W) (twoL x.1 y.1) none y.2.2).1, y.2.1, (putH (sumW W) (twoL x.1 y.1) none y.2.2).2))) := by
  obtain ⟨c0, c1, c2, c3, _, zq⟩ := hs.cells
  have hne := hs.ne hk
  have hpw := hk.lt
  have HK := Lib.hid hk
  have t1 : decide ((at_ : Int) + n ≤ F) = false := decide_eq_false (by omega)
  have t2 : decide ((F : Int) + pn ≤ at_) = false := decide_eq_false (by omega)
  have t3 : ((n : Int) == 1) = false := beq_eq_false_iff_ne.2 (by omega)
  have h5' : (pn : Int) ≤ pc := by omega
  have hkn : (k : Int) ≤ n := by omega
  unfold maxLen at h6 hlm
  clear hs hk ho
  cases o1 with
  | none =>
    have e0 : ((none : Option (Dg × List Dg × Cl)).bind fun x => (f2 x.2.1 x.2.2).map fun y => ((putH (sumW W) (twoL x.1 y.1) none y.2.2).1, y.2.1, (putH (sumW W) (twoL x.1 y.1) none y.2.2).2)) = none := rfl
    rw [e0]
    replace HC1 : Hid (∀ w', Ex w w' → Calls Tryd.prog 99 #[.pointer (some ⟨q, 0, none⟩), I at_, I k, .slice la 0 lc] w' (fun e w2 => e = offE ∧ FrQ p q w' w2 ∧ ∃ c, Wk w2 p W c)) := HC1
    clear HC2
    go_enter Tryd.func99, Tryd.ntmps99
    go_wp2
    refine wp_region_seq [(0, true), (1, true), (2, true), (3, true), (4, true), (5, true), (6, true), (7, true), (8, true), (9, true), (10, true), (11, true), (12, true), (13, true), (14, true), (15, true), (16, true), (17, true), (18, true), (19, true), (20, true), (21, true), (22, true), (23, true), (24, true)] (by kernel_rfl) (by kernel_rfl) (fun _ _ d _ _ h => by cases d <;> exact h) ?_
    simp only [List.map_cons, List.map_nil, nth]
    repeat (first | ((with_reducible refine wpSeq_look ?_); go_big_quiet_step (fail); (with_reducible refine wpQuiet_nil ?_)) | ((with_reducible refine wpSeq_effF ?_ ?_); (focus rfl); go_simp) | ((with_reducible refine wpSeq_eff ?_ ?_); (focus rfl); (try dsimp only); go_wp2_with (fail); refine mixQ_mk (by (try show Ex _ _); with_reducible repeat (first | exact ex_refl _ | assumption | refine ex_drewL ?_ | refine ex_appR ?_ _ | refine ex_wx ?_ _ | refine ex_drew ?_ | refine ex_alloc ?_ _)) ?_))
    refine wpSeq_nil ?_
    go_wp2_with (first | (go_at_call 133; (with_reducible refine (HSp.out _).mono ?_); rintro e w' ⟨rfl, rfl⟩) | (go_at_call 99; (with_reducible refine (HC1.out _ (by (try show Ex _ _); with_reducible repeat (first | exact ex_refl _ | assumption | refine ex_drewL ?_ | refine ex_appR ?_ _ | refine ex_wx ?_ _ | refine ex_drew ?_ | refine ex_alloc ?_ _))).mono ?_); rintro e w2 ⟨rfl, F2, c2, K2⟩; dsimp only [offE]; exact ⟨rfl, rfl, (Frm.ex (by (try show Ex _ _); with_reducible repeat (first | exact ex_refl _ | assumption | refine ex_drewL ?_ | refine ex_appR ?_ _ | refine ex_wx ?_ _ | refine ex_drew ?_ | refine ex_alloc ?_ _))).trans F2, c2, K2⟩))
  | some x =>
    obtain ⟨x1, qs1, c1'⟩ := x
    replace HC1 : Hid (∀ w', Ex w w' → Calls Tryd.prog 99 #[.pointer (some ⟨q, 0, none⟩), I at_, I k, .slice la 0 lc] w' (fun e w2 => e = .returned (.agg (rowB 32 (dF x1))) ∧ FrQ p q w' w2 ∧ Wk w2 p W c1' ∧ Sp A w2 q p T F (.slice pa pn pc) qs1)) := HC1
    have HC2' := Lib.hid (HC2.out qs1 c1')
    have e0 : ((some (x1, qs1, c1')).bind fun x => (f2 x.2.1 x.2.2).map fun y => ((putH (sumW W) (twoL x.1 y.1) none y.2.2).1, y.2.1, (putH (sumW W) (twoL x.1 y.1) none y.2.2).2)) = (f2 qs1 c1').map fun y => (sumW W (twoL x1 y.1), y.2.1, y.2.2) := rfl
    rw [e0]
    generalize f2 qs1 c1' = o2 at HC2' ⊢
    clear HC2 e0
    have tok : True := trivial
    cases o2 with
    | none =>
      rw [Option.map_none]
      have HC2 : Hid (∀ w', Ex A w' → Wk w' p W c1' → Sp A w' q p T F (.slice pa pn pc) qs1 → Calls Tryd.prog 99 #[.pointer (some ⟨q, 0, none⟩), I ((at_ : Int) + k), I ((n : Int) - k), .slice la 0 lc] w' (fun e w2 => e = offE ∧ FrQ p q w' w2 ∧ ∃ c, Wk w2 p W c)) := HC2'
      clear HC2'
      go_enter Tryd.func99, Tryd.ntmps99
      go_wp2
      refine wp_region_seq [(0, true), (1, true), (2, true), (3, true), (4, true), (5, true), (6, true), (7, true), (8, true), (9, true), (10, true), (11, true), (12, true), (13, true), (14, true), (15, true), (16, true), (17, true), (18, true), (19, true), (20, true), (21, true), (22, true), (23, true), (24, true)] (by kernel_rfl) (by kernel_rfl) (fun _ _ d _ _ h => by cases d <;> exact h) ?_
      simp only [List.map_cons, List.map_nil, nth]
      repeat (first | ((with_reducible refine wpSeq_look ?_); go_big_quiet_step (fail); (with_reducible refine wpQuiet_nil ?_)) | ((with_reducible refine wpSeq_effF ?_ ?_); (focus rfl); go_simp) | ((with_reducible refine wpSeq_eff ?_ ?_); (focus rfl); (try dsimp only); go_wp2_with (fail); refine mixQ_mk (by (try show Ex _ _); with_reducible repeat (first | exact ex_refl _ | assumption | refine ex_drewL ?_ | refine ex_appR ?_ _ | refine ex_wx ?_ _ | refine ex_drew ?_ | refine ex_alloc ?_ _)) ?_))
      refine wpSeq_nil ?_
      go_wp2_with (first | (go_at_call 133; (with_reducible refine (HSp.out _).mono ?_); rintro e w' ⟨rfl, rfl⟩) | (go_at_call 99; have _t := tok; clear tok; (with_reducible refine (HC1.out _ (by (try show Ex _ _); with_reducible repeat (first | exact ex_refl _ | assumption | refine ex_drewL ?_ | refine ex_appR ?_ _ | refine ex_wx ?_ _ | refine ex_drew ?_ | refine ex_alloc ?_ _))).mono ?_); rintro e w2 ⟨rfl, F2', K2, S2⟩; have F2 : FrQ p q (w.alloc (.cells (rowB 32 fun _ => 0) 46)) w2 := (Frm.ex (by (try show Ex _ _); with_reducible repeat (first | exact ex_refl _ | assumption | refine ex_drewL ?_ | refine ex_appR ?_ _ | refine ex_wx ?_ _ | refine ex_drew ?_ | refine ex_alloc ?_ _))).trans F2'; have kA2 : Ex A w2 := FrQ.exA F2 (ex_alloc kA _) hAp hAq; have zp2 := K2.lt; have zq2 := S2.lt; replace F2' := Lib.hid F2') | (go_at_call 99; (with_reducible refine (HC2.out _ (ex_trans kA2 (by (try show Ex _ _); with_reducible repeat (first | exact ex_refl _ | assumption | refine ex_drewL ?_ | refine ex_appR ?_ _ | refine ex_wx ?_ _ | refine ex_drew ?_ | refine ex_alloc ?_ _))) (K2.ex (by (try show Ex _ _); with_reducible repeat (first | exact ex_refl _ | assumption | refine ex_drewL ?_ | refine ex_appR ?_ _ | refine ex_wx ?_ _ | refine ex_drew ?_ | refine ex_alloc ?_ _))) (S2.ex (by (try show Ex _ _); with_reducible repeat (first | exact ex_refl _ | assumption | refine ex_drewL ?_ | refine ex_appR ?_ _ | refine ex_wx ?_ _ | refine ex_drew ?_ | refine ex_alloc ?_ _)))).mono ?_); rintro e w4 ⟨rfl, F4, c4, K4⟩; dsimp only [offE]; exact ⟨rfl, rfl, (Frm.ex (by (try show Ex _ _); with_reducible repeat (first | exact ex_refl _ | assumption | refine ex_drewL ?_ | refine ex_appR ?_ _ | refine ex_wx ?_ _ | refine ex_drew ?_ | refine ex_alloc ?_ _))).trans (F2.trans ((Frm.ex (by (try show Ex _ _); with_reducible repeat (first | exact ex_refl _ | assumption | refine ex_drewL ?_ | refine ex_appR ?_ _ | refine ex_wx ?_ _ | refine ex_drew ?_ | refine ex_alloc ?_ _))).trans F4)), c4, K4⟩))
    | some y =>
      obtain ⟨y1, qs2, c2'⟩ := y
      rw [Option.map_some]
      have HC2 : Hid (∀ w', Ex A w' → Wk w' p W c1' → Sp A w' q p T F (.slice pa pn pc) qs1 → Calls Tryd.prog 99 #[.pointer (some ⟨q, 0, none⟩), I ((at_ : Int) + k), I ((n : Int) - k), .slice la 0 lc] w' (fun e w2 => e = .returned (.agg (rowB 32 (dF y1))) ∧ FrQ p q w' w2 ∧ Wk w2 p W c2' ∧ Sp A w2 q p T F (.slice pa pn pc) qs2)) := HC2'
      clear HC2'
      have H2 := Lib.hid (fun a b w => two_any a b w)
      have HSm : Hid (∀ w' v, Ex A w' → OwnU w' v (twoL x1 y1) → Calls Tryd.prog 61 #[I W, v] w' (Post w' (.agg (rowB 32 (dF (sumW W (twoL x1 y1))))))) := Lib.hid fun w' v k h => wsum_any G W hW (ex_trans k0 k) h.slt (by rw [twoL_len]; omega)
      unfold PostTs
      simp only
      generalize sumW W (twoL x1 y1) = z at HSm ⊢
      go_enter Tryd.func99, Tryd.ntmps99
      go_wp2
      refine wp_region_seq [(0, true), (1, true), (2, true), (3, true), (4, true), (5, true), (6, true), (7, true), (8, true), (9, true), (10, true), (11, true), (12, true), (13, true), (14, true), (15, true), (16, true), (17, true), (18, true), (19, true), (20, true), (21, true), (22, true), (23, true), (24, true)] (by kernel_rfl) (by kernel_rfl) (fun _ _ d _ _ h => by cases d <;> exact h) ?_
      simp only [List.map_cons, List.map_nil, nth]
      repeat (first | ((with_reducible refine wpSeq_look ?_); go_big_quiet_step (fail); (with_reducible refine wpQuiet_nil ?_)) | ((with_reducible refine wpSeq_effF ?_ ?_); (focus rfl); go_simp) | ((with_reducible refine wpSeq_eff ?_ ?_); (focus rfl); (try dsimp only); go_wp2_with (fail); refine mixQ_mk (by (try show Ex _ _); with_reducible repeat (first | exact ex_refl _ | assumption | refine ex_drewL ?_ | refine ex_appR ?_ _ | refine ex_wx ?_ _ | refine ex_drew ?_ | refine ex_alloc ?_ _)) ?_))
      refine wpSeq_nil ?_
      go_wp2_with (first | (go_at_call 133; (with_reducible refine (HSp.out _).mono ?_); rintro e w' ⟨rfl, rfl⟩) | (go_at_call 99; have _t := tok; clear tok; (with_reducible refine (HC1.out _ (by (try show Ex _ _); with_reducible repeat (first | exact ex_refl _ | assumption | refine ex_drewL ?_ | refine ex_appR ?_ _ | refine ex_wx ?_ _ | refine ex_drew ?_ | refine ex_alloc ?_ _))).mono ?_); rintro e w2 ⟨rfl, F2', K2, S2⟩; have F2 : FrQ p q (w.alloc (.cells (rowB 32 fun _ => 0) 46)) w2 := (Frm.ex (by (try show Ex _ _); with_reducible repeat (first | exact ex_refl _ | assumption | refine ex_drewL ?_ | refine ex_appR ?_ _ | refine ex_wx ?_ _ | refine ex_drew ?_ | refine ex_alloc ?_ _))).trans F2'; have kA2 : Ex A w2 := FrQ.exA F2 (ex_alloc kA _) hAp hAq; have zp2 := K2.lt; have zq2 := S2.lt; replace F2' := Lib.hid F2') | (go_at_call 99; (with_reducible refine (HC2.out _ (ex_trans kA2 (by (try show Ex _ _); with_reducible repeat (first | exact ex_refl _ | assumption | refine ex_drewL ?_ | refine ex_appR ?_ _ | refine ex_wx ?_ _ | refine ex_drew ?_ | refine ex_alloc ?_ _))) (K2.ex (by (try show Ex _ _); with_reducible repeat (first | exact ex_refl _ | assumption | refine ex_drewL ?_ | refine ex_appR ?_ _ | refine ex_wx ?_ _ | refine ex_drew ?_ | refine ex_alloc ?_ _))) (S2.ex (by (try show Ex _ _); with_reducible repeat (first | exact ex_refl _ | assumption | refine ex_drewL ?_ | refine ex_appR ?_ _ | refine ex_wx ?_ _ | refine ex_drew ?_ | refine ex_alloc ?_ _)))).mono ?_); rintro e w4 ⟨rfl, F4', K4, S4⟩; have F4 : FrQ p q (w.alloc (.cells (rowB 32 fun _ => 0) 46)) w4 := F2.trans ((Frm.ex (by (try show Ex _ _); with_reducible repeat (first | exact ex_refl _ | assumption | refine ex_drewL ?_ | refine ex_appR ?_ _ | refine ex_wx ?_ _ | refine ex_drew ?_ | refine ex_alloc ?_ _))).trans F4'); have kA4 : Ex A w4 := FrQ.exA F4 (ex_alloc kA _) hAp hAq; obtain ⟨n12, f12, z12, i12⟩ := frG32 (r := w2.heap.size) (cs := rowB 32 (dF x1)) F4' (IdB.new' rfl) (by intro e; rcases e with e | e <;> omega) (by simp [go_sem]) (by simp [go_sem]); replace F4' := Lib.hid F4'))
      refine wp_worldC fun W6 hW6 => ?_
      have k6 : Ex w4 W6 := by rw [← hW6]; exact (by (try show Ex _ _); with_reducible repeat (first | exact ex_refl _ | assumption | refine ex_drewL ?_ | refine ex_appR ?_ _ | refine ex_wx ?_ _ | refine ex_drew ?_ | refine ex_alloc ?_ _))
      have kA6 : Ex A W6 := ex_trans kA4 k6
      have d12 := cellsN_exF n12 z12 k6
      have d13 : cellsN W6 w4.heap.size 0 32 = some (rowB 32 (dF y1)) := by rw [← hW6]; simp [go_sem]
      have z13 : w4.heap.size < W6.heap.size := by rw [← hW6]; simp [go_sem]
      have K6 := K4.ex k6
      have S6 := S4.ex k6
      have F6 : FrQ p q (w.alloc (.cells (rowB 32 fun _ => 0) 46)) W6 := F4.trans (Frm.ex k6)
      clear hW6
      obtain ⟨r13, hr13⟩ : ∃ r, w4.heap.size = r := ⟨_, rfl⟩
      rw [hr13] at d13 z13 ⊢
      have h1213 : w2.heap.size < r13 := by omega
      obtain ⟨r12, hr12⟩ : ∃ r, w2.heap.size = r := ⟨_, rfl⟩
      rw [hr12] at d12 h1213 ⊢
      have s02 := F2.size
      rw [World.size_alloc] at s02
      have z8w : w.heap.size < W6.heap.size := by omega
      have b86 : W6.heap[w.heap.size]? = some (.cells (rowB 32 fun _ => 0) 46 (0, 0)) := (F6.same _ (by rw [World.size_alloc]; omega) (by intro e; rcases e with e | e <;> omega)).trans (heap_alloc_new _ _)
      have i8 : IdB W6 w.heap.size := ⟨_, _, b86⟩
      have F6w : FrQ p q w W6 := (Frm.ex (ex_alloc (ex_refl _) _)).trans F6
      obtain ⟨r8, hr8⟩ : ∃ r, w.heap.size = r := ⟨_, rfl⟩
      have hle8 : w.heap.size ≤ r8 := by omega
      rw [hr8] at z8w b86 i8 ⊢
      have hq8 : q ≠ r8 := by omega
      have hp8 : p ≠ r8 := by omega
      have h812 : r8 < r12 := by omega
      have hp12 : p < r12 := by omega
      have hq12 : q < r12 := by omega
      obtain ⟨n8, f8, z8⟩ := block_cellsF (n := 32) b86 (by simp)
      obtain ⟨e0, e1, e2, e3, _, e5⟩ := S6.cells
      have ew := K6.width
      have ez := K6.lt
      have z126 : r12 < W6.heap.size := by omega
      clear n12 f12 z12 i12 hr13 hr12 hr8 F4 F2 kA4 kA2 k6 F4' F2' K4 S4 K2 S2 zp2 zq2
      obtain ⟨P, hP⟩ : ∃ P : Nat → Prop, P = fun k => k = r8 := ⟨_, rfl⟩
      have hPr : P r8 := by rw [hP]
      have nP1 : ¬ P q := by rw [hP]; exact hq8
      have nP2 : ¬ P p := by rw [hP]; exact hp8
      have nP3 : ¬ P r12 := by rw [hP]; intro e; have e : r12 = r8 := e; omega
      have nP4 : ¬ P r13 := by rw [hP]; intro e; have e : r13 = r8 := e; omega
      clear hP
      refine wp_region_forkH (fun w' => ∃ X, w' = kp W6 P X) (.look 0 (.look 1 (.look 2 (.look 3 (.look 4 (.look 5 (.look 6 (.look 7 (.look 8 (.eff 9 (.eff 10 (.eff 11 .done)))))))))))) (⟨_, kp_of (fun _ _ _ => rfl)⟩) (by kernel_rfl) (by kernel_rfl) (fun _ _ d _ _ h => by cases d <;> exact h) ?_
      simp only [Fk.ops, nth]
      repeat (first | ((with_reducible refine wpForkH_look ?_); go_big_quiet_step (fail); (try (with_reducible refine wpQuiet_nil ?_))) | (with_reducible refine wpForkH_eff ?_) | ((with_reducible refine effH_F ?_ ?_); (focus rfl); go_simp) | ((with_reducible refine effH_T ?_ ?_); (focus rfl); (try dsimp only); go_wp2_with (first | (go_at_call 134; (with_reducible refine (H2.out _ _ _).mono ?_); rintro e w3 ⟨v4, rfl, hv4, X4, rfl⟩; (try simp only [wx_wx, wx_drew] at hv4)) | (go_at_call 61; (with_reducible refine (HSm.out _ _ (ex_trans kA6 (by (try show Ex _ _); with_reducible repeat (first | exact ex_refl _ | assumption | refine ex_drewL ?_ | refine ex_appR ?_ _ | refine ex_wx ?_ _ | refine ex_drew ?_ | refine ex_alloc ?_ _))) (OwnU.ex hv4 (by (try show Ex _ _); with_reducible repeat (first | exact ex_refl _ | assumption | refine ex_drewL ?_ | refine ex_appR ?_ _ | refine ex_wx ?_ _ | refine ex_drew ?_ | refine ex_alloc ?_ _)))).mono ?_); rintro e w3 ⟨rfl, X5, rfl⟩)); (first | done | refine mixQH_mk (⟨_, kpF (by repeat (first | (with_reducible exact Frm.refl _ _) | (with_reducible refine Frm.allocR ?_ _) | (with_reducible refine Frm.wxR ?_ _) | (with_reducible refine Frm.drewR ?_) | (with_reducible refine Frm.sets ?_ hPr _ _)))⟩) ?_)))
      all_goals (with_reducible refine wpForkH_nil ?_)
      go_wp2
      exact ret_row (cs := rowB 32 (dF z)) Tryd.results99 Tryd.underlying46 rfl info_id rfl (by simp [go_sem, n8, z8]) rfl ⟨rfl, (by repeat (first | (with_reducible exact F6w) | (with_reducible exact Frm.refl _ _) | (with_reducible refine Frm.allocR ?_ _) | (with_reducible refine Frm.wxR ?_ _) | (with_reducible refine Frm.drewR ?_) | ((with_reducible refine Frm.setsNew ?_ ?_ _ _); rotate_left; (focus omega)))), (by repeat (first | (with_reducible exact K6) | (with_reducible refine Wk.allocR ?_ _) | (with_reducible refine Wk.wxR ?_ _) | (with_reducible refine Wk.drewR ?_) | ((with_reducible refine Wk.setsR ?_ ?_ _ _); rotate_left; (focus ((repeat (first | (with_reducible assumption) | (with_reducible refine IdB.setsR ?_ _ _ _) | ((with_reducible refine IdB.new' ?_); (simp [go_sem]; done)) | (with_reducible refine IdB.allocR ?_ _) | (with_reducible refine IdB.wxR ?_ _) | (with_reducible refine IdB.drewR ?_))); done))))), (by repeat (first | (with_reducible exact S6) | (with_reducible refine Sp.allocR ?_ _) | (with_reducible refine Sp.wxR ?_ _) | (with_reducible refine Sp.drewR ?_) | (with_reducible refine Sp.setsR ?_ hq8 _ _)))⟩
end Go.Proofs.YtcdocklbpfdmeaaDoor
