import Derived.Test.YtcdocklbpfdmeaaDoorMSpB

/- Collide: the top of a span: one pair. -/
set_option linter.unusedSimpArgs false
set_option linter.unusedVariables false
set_option linter.unnecessarySimpa false
set_option maxRecDepth 20000
namespace Go.Proofs.YtcdocklbpfdmeaaDoor
open Go.RowKit
set_option maxHeartbeats 1000000 in
theorem span_one {w0 A : World} (G : Glob w0) (k0 : Ex w0 A) {p q W : Nat} (hW : W ≤ 256) {T : Int} {F : Nat} {ps : List Pr} {pa : Option Addr} {pc : Nat} (i : Nat) (P : Pr) (hP : ps[i]? = some P) (hPs : SlP A pa ps) (hfit : FitL ps) (h1 : F + i ≤ 1000) (h4 : ps.length ≤ 1000) (h5 : ps.length ≤ pc) (h6 : pc ≤ maxLen) (qs : List Dg) (l : List Pr) (la : Option Addr) (lc : Nat) (hl : l.length ≤ 1) (hlc : l.length ≤ lc) (hlm : lc ≤ maxLen) (hls : SlP A la l) (hlf : FitL l) (c : Cl) (w : World) (kA : Ex A w) (hk : Wk w p W c) (hs : Sp A w q p T F (.slice pa ps.length pc) qs) (hAp : A.heap.size ≤ p) (hAq : A.heap.size ≤ q) :
    Calls Tryd.prog 99 #[.pointer (some ⟨q, 0, none⟩), I ((F : Int) + i), I 1, .slice la l.length lc] w (PostTs A p q W T F (.slice pa ps.length pc) w (some ((putH (sumW W) (leafL P) (l.head?.map leafL) c).1, qs, (putH (sumW W) (leafL P) (l.head?.map leafL) c).2))) := by
  obtain ⟨c0, c1, c2, c3, _, zq⟩ := hs.cells
  have hne := hs.ne hk
  have HK := Lib.hid hk
  have HS := Lib.hid hs
  have hpw := hk.lt
  have hw0 := hk.width
  have hi := (List.getElem?_eq_some_iff.1 hP).1
  have HCl := Lib.hid fun w' => cellB_any P (hfit P (List.mem_of_getElem? hP)) w'
  obtain ⟨g, off, rfl, hg, _⟩ := hPs.pos (by omega)
  obtain ⟨hx1, hx2⟩ := (hPs.ex kA).at hP
  have t1 : decide ((F : Int) + i + 1 ≤ F) = false := decide_eq_false (by omega)
  have t2 : decide ((F : Int) + ps.length ≤ (F : Int) + i) = false := decide_eq_false (by omega)
  have HE := Lib.hid fun (w5 : World) (c5 : Cl) (F5 : FrP p (w.alloc (.cells (rowB 32 fun _ => 0) 46)) w5) (K5 : Wk w5 p W c5) =>
    q_end (W := W) (c := c5) (w := w) (r := w.heap.size) (q := q) (ex_alloc (ex_refl _) _) (Nat.le_refl _) (heap_alloc_new _ _) (FrQ.ofP F5) K5 ((HS.out.ex (ex_alloc (ex_refl _) _)).frm F5 hne) (by omega) (by omega)
  have h5' : (ps.length : Int) ≤ pc := by omega
  unfold maxLen at h6 hlm
  have hgp : g ≠ p := by omega
  generalize ps.length = pn at *
  match l, hl with
  | [], _ =>
    have e0 : putH (sumW W) (leafL P) ((([] : List Pr).head?).map leafL) c = (sumW W (leafL P), c) := rfl
    rw [e0]
    have HSm := Lib.hid fun w' v (k : Ex w w') (h : OwnU w' v (leafL P)) => wsum_any G W hW (ex_trans k0 (ex_trans kA k)) h.slt (by have := leafL_short (p := P); omega)
    generalize sumW W (leafL P) = x at HSm ⊢
    unfold PostTs
    simp only
    rw [List.length_nil] at *
    clear hk hs hls hP hPs
    go_enter Tryd.func99, Tryd.ntmps99
    go_wp2
    refine wp_region_seq [(0, true), (1, true), (2, true), (3, true), (4, true), (5, true), (6, true), (7, true), (8, true), (9, true), (10, true), (11, true), (12, true), (13, true), (14, true), (15, true), (16, true), (17, true), (18, true), (19, true), (20, true), (21, true), (22, true), (23, true), (24, true)] (by kernel_rfl) (by kernel_rfl) (fun _ _ d _ _ h => by cases d <;> exact h) ?_
    simp only [List.map_cons, List.map_nil, nth]
    repeat (first | ((with_reducible refine wpSeq_look ?_); go_big_quiet_step (fail); (with_reducible refine wpQuiet_nil ?_)) | ((with_reducible refine wpSeq_effF ?_ ?_); (focus rfl); go_simp) | ((with_reducible refine wpSeq_eff ?_ ?_); (focus rfl); (try dsimp only); go_wp2_with (fail); refine mixQ_mk (by (try show Ex _ _); with_reducible repeat (first | exact ex_refl _ | assumption | refine ex_drewL ?_ | refine ex_appR ?_ _ | refine ex_wx ?_ _ | refine ex_drew ?_ | refine ex_alloc ?_ _)) ?_))
    refine wpSeq_nil ?_
    go_wp2
    refine wp_region_seq [(0, true), (1, true), (2, true), (3, true), (4, true), (5, true), (6, true), (7, true), (8, true), (9, true), (10, true), (11, true), (12, true), (13, true), (14, false), (15, true)] (by kernel_rfl) (by kernel_rfl) (fun _ _ d _ _ h => by cases d <;> exact h) ?_
    simp only [List.map_cons, List.map_nil, nth]
    repeat (first | ((with_reducible refine wpSeq_look ?_); go_big_quiet_step (fail); (with_reducible refine wpQuiet_nil ?_)) | ((with_reducible refine wpSeq_effF ?_ ?_); (focus rfl); go_simp) | ((with_reducible refine wpSeq_eff ?_ ?_); (focus rfl); (try dsimp only); go_wp2_with ((go_at_call 120; (with_reducible refine (HCl.out _).mono ?_); rintro e w2 ⟨v1, rfl, hv1, X1, rfl⟩; (try simp only [wx_wx, wx_drew] at hv1))); refine mixQ_mk (by (try show Ex _ _); with_reducible repeat (first | exact ex_refl _ | assumption | refine ex_drewL ?_ | refine ex_appR ?_ _ | refine ex_wx ?_ _ | refine ex_drew ?_ | refine ex_alloc ?_ _)) ?_))
    refine wpSeq_nil ?_
    go_wp2_with (go_at_call 61; (with_reducible refine (HSm.out _ _ (by (try show Ex _ _); with_reducible repeat (first | exact ex_refl _ | assumption | refine ex_drewL ?_ | refine ex_appR ?_ _ | refine ex_wx ?_ _ | refine ex_drew ?_ | refine ex_alloc ?_ _)) (OwnU.ex hv1 (by (try show Ex _ _); with_reducible repeat (first | exact ex_refl _ | assumption | refine ex_drewL ?_ | refine ex_appR ?_ _ | refine ex_wx ?_ _ | refine ex_drew ?_ | refine ex_alloc ?_ _)))).mono ?_); rintro e w3 ⟨rfl, X3, rfl⟩)
    obtain ⟨_, HX⟩ := HE.out _ c (Frm.refl _ _) (HK.out.ex (ex_alloc (ex_refl _) _))
    exact ret_row (cs := rowB 32 (dF x)) Tryd.results99 Tryd.underlying46 rfl info_id rfl (by simp [go_sem]) rfl ⟨rfl, Frm.ex (by (try show Ex _ _); with_reducible repeat (first | exact ex_refl _ | assumption | refine ex_drewL ?_ | refine ex_appR ?_ _ | refine ex_wx ?_ _ | refine ex_drew ?_ | refine ex_alloc ?_ _)), HK.out.ex (by (try show Ex _ _); with_reducible repeat (first | exact ex_refl _ | assumption | refine ex_drewL ?_ | refine ex_appR ?_ _ | refine ex_wx ?_ _ | refine ex_drew ?_ | refine ex_alloc ?_ _)), HS.out.ex (by (try show Ex _ _); with_reducible repeat (first | exact ex_refl _ | assumption | refine ex_drewL ?_ | refine ex_appR ?_ _ | refine ex_wx ?_ _ | refine ex_drew ?_ | refine ex_alloc ?_ _))⟩
  | [y], _ =>
    obtain ⟨g2, off2, rfl, hg2, _⟩ := hls.pos (by simp)
    obtain ⟨hy1, hy2⟩ := (hls.ex kA).at (i := 0) (d := y) rfl
    rw [Nat.zero_mul, Nat.add_zero] at hy1
    have HC2 := Lib.hid fun w' => cellB_any y (hlf y (List.mem_singleton.2 rfl)) w'
    have HPt : Hid (∀ w' v u, Ex w w' → OwnU w' v (leafL P) → OwnU w' u (leafL y) → Calls Tryd.prog 100 #[.pointer (some ⟨p, 0, none⟩), v, u] w' (PostK p W w' (.agg (rowB 32 (dF (putC (sumW W) (leafL P) (leafL y) c).1))) (putC (sumW W) (leafL P) (leafL y) c).2)) :=
      Lib.hid fun w' v u k h1 h2 => put_any G W hW (ex_trans k0 (ex_trans kA k)) (HK.out.ex k) h1 h2 (by have := leafL_short (p := P); omega) (by have := leafL_short (p := y); omega)
    have e0 : putH (sumW W) (leafL P) ((([y] : List Pr).head?).map leafL) c = putC (sumW W) (leafL P) (leafL y) c := rfl
    rw [e0]
    generalize putC (sumW W) (leafL P) (leafL y) c = o at HPt ⊢
    obtain ⟨z, c'⟩ := o
    unfold PostTs
    simp only at HPt ⊢
    rw [List.length_singleton] at *
    have hgp2 : g2 ≠ p := by omega
    obtain ⟨PP, hPP⟩ : ∃ P : Nat → Prop, P = fun k => k = p ∨ k = w.heap.size := ⟨_, rfl⟩
    have n1 : ¬ PP g2 := by rw [hPP]; rintro (e | e) <;> omega
    have n2 : ¬ PP q := by rw [hPP]; rintro (e | e) <;> omega
    have hPr : PP w.heap.size := by rw [hPP]; exact Or.inr rfl
    clear hk hs hls hP hPs
    go_enter Tryd.func99, Tryd.ntmps99
    go_wp2
    refine wp_region_seq [(0, true), (1, true), (2, true), (3, true), (4, true), (5, true), (6, true), (7, true), (8, true), (9, true), (10, true), (11, true), (12, true), (13, true), (14, true), (15, true), (16, true), (17, true), (18, true), (19, true), (20, true), (21, true), (22, true), (23, true), (24, true)] (by kernel_rfl) (by kernel_rfl) (fun _ _ d _ _ h => by cases d <;> exact h) ?_
    simp only [List.map_cons, List.map_nil, nth]
    repeat (first | ((with_reducible refine wpSeq_look ?_); go_big_quiet_step (fail); (with_reducible refine wpQuiet_nil ?_)) | ((with_reducible refine wpSeq_effF ?_ ?_); (focus rfl); go_simp) | ((with_reducible refine wpSeq_eff ?_ ?_); (focus rfl); (try dsimp only); go_wp2_with (fail); refine mixQ_mk (by (try show Ex _ _); with_reducible repeat (first | exact ex_refl _ | assumption | refine ex_drewL ?_ | refine ex_appR ?_ _ | refine ex_wx ?_ _ | refine ex_drew ?_ | refine ex_alloc ?_ _)) ?_))
    refine wpSeq_nil ?_
    go_wp2
    refine wp_region_seq [(0, true), (1, true), (2, true), (3, true), (4, true), (5, true), (6, true), (7, true), (8, true), (9, true), (10, true), (11, true), (12, true), (13, true), (14, false), (15, true)] (by kernel_rfl) (by kernel_rfl) (fun _ _ d _ _ h => by cases d <;> exact h) ?_
    simp only [List.map_cons, List.map_nil, nth]
    repeat (first | ((with_reducible refine wpSeq_look ?_); go_big_quiet_step (fail); (with_reducible refine wpQuiet_nil ?_)) | ((with_reducible refine wpSeq_effF ?_ ?_); (focus rfl); go_simp) | ((with_reducible refine wpSeq_eff ?_ ?_); (focus rfl); (try dsimp only); go_wp2_with ((go_at_call 120; (with_reducible refine (HCl.out _).mono ?_); rintro e w2 ⟨v1, rfl, hv1, X1, rfl⟩; (try simp only [wx_wx, wx_drew] at hv1))); refine mixQ_mk (by (try show Ex _ _); with_reducible repeat (first | exact ex_refl _ | assumption | refine ex_drewL ?_ | refine ex_appR ?_ _ | refine ex_wx ?_ _ | refine ex_drew ?_ | refine ex_alloc ?_ _)) ?_))
    refine wpSeq_nil ?_
    go_wp2
    have SQ : Hid (∀ w5, FrP p (wx (w.alloc (.cells (rowB 32 fun _ => 0) 46)) X1) w5 → Frm PP (wx (w.alloc (.cells (rowB 32 fun _ => 0) 46)) X1) w5) := Lib.hid fun w5 F => F.mono fun b e => by rw [hPP]; exact Or.inl e
    clear hPP
    refine wp_region_forkH (fun w' => ∃ X, w' = kp (wx (w.alloc (.cells (rowB 32 fun _ => 0) 46)) X1) PP X) (.look 0 (.look 1 (.look 2 (.look 3 (.look 4 (.look 5 (.look 6 (.look 7 (.eff 8 (.eff 9 (.eff 10 .done))))))))))) (⟨_, kp_of (fun _ _ _ => rfl)⟩) (by kernel_rfl) (by kernel_rfl) (fun _ _ d _ _ h => by cases d <;> exact h) ?_
    simp only [Fk.ops, nth]
    repeat (first | ((with_reducible refine wpForkH_look ?_); go_big_quiet_step (fail); (try (with_reducible refine wpQuiet_nil ?_))) | (with_reducible refine wpForkH_eff ?_) | ((with_reducible refine effH_F ?_ ?_); (focus rfl); go_simp) | ((with_reducible refine effH_T ?_ ?_); (focus rfl); (try dsimp only); go_wp2_with (first | (go_at_call 120; (with_reducible refine (HC2.out _).mono ?_); rintro e w2 ⟨v2, rfl, hv2, X2, rfl⟩; (try simp only [wx_wx, wx_drew] at hv2)) | (go_at_call 100; (with_reducible refine (HPt.out _ _ _ (by (try show Ex _ _); with_reducible repeat (first | exact ex_refl _ | assumption | refine ex_drewL ?_ | refine ex_appR ?_ _ | refine ex_wx ?_ _ | refine ex_drew ?_ | refine ex_alloc ?_ _)) (OwnU.ex hv1 (by (try show Ex _ _); with_reducible repeat (first | exact ex_refl _ | assumption | refine ex_drewL ?_ | refine ex_appR ?_ _ | refine ex_wx ?_ _ | refine ex_drew ?_ | refine ex_alloc ?_ _))) (OwnU.ex hv2 (by (try show Ex _ _); with_reducible repeat (first | exact ex_refl _ | assumption | refine ex_drewL ?_ | refine ex_appR ?_ _ | refine ex_wx ?_ _ | refine ex_drew ?_ | refine ex_alloc ?_ _)))).mono ?_); rintro e w5 ⟨rfl, F5', K5⟩; have F5 : FrP p (wx (w.alloc (.cells (rowB 32 fun _ => 0) 46)) X1) w5 := (Frm.ex (by (try show Ex _ _); with_reducible repeat (first | exact ex_refl _ | assumption | refine ex_drewL ?_ | refine ex_appR ?_ _ | refine ex_wx ?_ _ | refine ex_drew ?_ | refine ex_alloc ?_ _))).trans F5'; obtain ⟨⟨n5, f5, z5⟩, HX⟩ := HE.out w5 _ ((Frm.ex (by (try show Ex _ _); with_reducible repeat (first | exact ex_refl _ | assumption | refine ex_drewL ?_ | refine ex_appR ?_ _ | refine ex_wx ?_ _ | refine ex_drew ?_ | refine ex_alloc ?_ _))).trans F5) K5; replace HX := Lib.hid HX; replace F5' := Lib.hid F5')); (first | done | refine mixQH_mk (⟨_, kpF (by first | exact (SQ.out _ F5).sets hPr _ _ | exact SQ.out _ F5 | exact Frm.ex (by (try show Ex _ _); with_reducible repeat (first | exact ex_refl _ | assumption | refine ex_drewL ?_ | refine ex_appR ?_ _ | refine ex_wx ?_ _ | refine ex_drew ?_ | refine ex_alloc ?_ _)))⟩) ?_)))
    all_goals (with_reducible refine wpForkH_nil ?_)
    go_wp2
    obtain ⟨x1, x2, x3, x4⟩ := HX.out z
    exact ret_row Tryd.results99 Tryd.underlying46 rfl info_id rfl x1 rfl ⟨rfl, x2, x3, x4⟩
end Go.Proofs.YtcdocklbpfdmeaaDoor
