import Derived.Test.YtcdocklbpfdmeaaDoorMSqA

/- CollideSpans: the law. -/
set_option linter.unusedSimpArgs false
set_option linter.unusedVariables false
set_option linter.unnecessarySimpa false
set_option maxRecDepth 20000
namespace Go.Proofs.YtcdocklbpfdmeaaDoor
open Go.RowKit
theorem OwnP.ktS {w w' : World} {Z : Nat} {v : Value} {l : List Pr} (h : OwnP w Z v l) (k : Kt w w') : OwnP w' Z v l := owns_kt h (by decide) k
theorem spansP_told (W : Int) (l : List Pr) (r : Rg) (T F : Int) (ps : List Pr) (qs : List Dg) : (spansP W l r T F ps qs).isSome = (spansC W l r T F ps qs).1 ∧ (spansP W l r T F ps qs).getD [] = if (spansC W l r T F ps qs).1 then amongL ps r else [] := by
  unfold spansP
  cases (spansC W l r T F ps qs).1 <;> exact ⟨rfl, rfl⟩
set_option maxHeartbeats 16000000 in
theorem spansC_any (W : Int) (l0 : List Pr) (a0 : Option Addr) (c0 : Nat) (a2 : Option Addr) (n2 c2 : Nat) (w : World) (G : Glob w) (hc : l0.length ≤ c0) (hcm : c0 ≤ maxLen) (hc2 : n2 ≤ c2) (hcm2 : c2 ≤ maxLen) (hs : SlP w a0 l0) (hs2 : SlAk w a2 n2) :
    Calls Tryd.prog 9 #[I W, .slice a0 l0.length c0, .slice a2 n2 c2] w (Post w (.bool true)) := by
  have HWk := Lib.hid fun w' (k : Ex w w') => wakesC_any w' (G.ex k)
  have HC := Lib.hid fun w' (k : Ex w w') => cellsL_any l0 a0 c0 w' hc hcm (hs.ex k)
  unfold PostPr at HC
  have hll : (cellsT l0).length ≤ 14 := by unfold cellsT; rw [List.length_map, List.length_take]; omega
  generalize cellsT l0 = lv at HC hll
  generalize l0.length = n0 at *
  unfold maxLen at hcm hcm2
  go_enter Tryd.func9, Tryd.ntmps9
  go_wp2_with (first | (go_at_call 11; (with_reducible refine (HWk.out _ (by (try show Ex _ _); with_reducible repeat (first | exact ex_refl _ | assumption | refine ex_drewL ?_ | refine ex_appR ?_ _ | refine ex_wx ?_ _ | refine ex_drew ?_ | refine ex_alloc ?_ _))).mono ?_); rintro e w2 ⟨rfl, X, rfl⟩) | (go_at_call 12; (with_reducible refine (HC.out _ (by (try show Ex _ _); with_reducible repeat (first | exact ex_refl _ | assumption | refine ex_drewL ?_ | refine ex_appR ?_ _ | refine ex_wx ?_ _ | refine ex_drew ?_ | refine ex_alloc ?_ _))).mono ?_); rintro e B ⟨v1, rfl, h1, hv1, hkB⟩; obtain ⟨la, lc, rfl, l1, l2, l3, l4⟩ := h1.slg; have hwB : Ex w B := ex_trans (by (try show Ex _ _); with_reducible repeat (first | exact ex_refl _ | assumption | refine ex_drewL ?_ | refine ex_appR ?_ _ | refine ex_wx ?_ _ | refine ex_drew ?_ | refine ex_alloc ?_ _)) hkB; replace hkB := Lib.hid hkB; clear h1))
  have hs3 : SlAk B a2 n2 := hs2.ex hwB
  have hl0 : la = none ∨ 0 < lv.length := hv1.imp (fun e => (Value.slice.inj e).1) id
  have hlm : lv.length ≤ 1000000 := by omega
  have HL4 := Lib.hid l4
  have GB := G.ex hwB
  replace hwB := Lib.hid hwB
  clear hs2 hkB hs hv1 l4 HC HWk
  obtain ⟨N, hN⟩ : ∃ N, lv.length = N := ⟨_, rfl⟩
  have HN : Hid (N = lv.length) := Lib.hid hN.symm
  rw [hN] at l1 hl0 hlm ⊢
  clear hN
  go_loopw [26] (fun i W' => ∃ k : Nat, k ≤ n2 ∧ i = I k ∧ Ex B W') (fun i _ => n2 - (intOf i).toNat)
  case atStart => exact ⟨0, by omega, rfl, (by (try show Ex _ _); with_reducible repeat (first | exact ex_refl _ | assumption | refine ex_drewL ?_ | refine ex_appR ?_ _ | refine ex_wx ?_ _ | refine ex_drew ?_ | refine ex_alloc ?_ _))⟩
  case round =>
    obtain ⟨k, hk, rfl, ⟨X, rfl⟩⟩ := hrel
    by_cases hlt : k < n2
    · obtain ⟨g, off, rfl, hg, hcell⟩ := hs3.out.resolve_left (by omega)
      obtain ⟨r0, T, F, pa0, ps0, pc0, qa0, qs0, qc0, hc1, hpc, hpm, hPs, hqc, hqm, hqn, hQs⟩ := hcell k hlt
      obtain ⟨lo0, hi0, op0⟩ := r0
      unfold askR at hc1
      dsimp only at hc1
      by_cases hk5 : k = 5
      · have hk5i : ((k : Int) == 5) = true := by rw [hk5]; rfl
        clear hk5 hcell hs3 hPs hQs
        go_wp2
        go_ret
        exact post_mk rfl (ex_trans hwB.out (by (try show Ex _ _); with_reducible repeat (first | exact ex_refl _ | assumption | refine ex_drewL ?_ | refine ex_appR ?_ _ | refine ex_wx ?_ _ | refine ex_drew ?_ | refine ex_alloc ?_ _)))
      · have hk5i : ((k : Int) == 5) = false := beq_eq_false_iff_ne.2 (by omega)
        have HA := Lib.hid fun w' (k : Ex B w') => asked_any ⟨lo0, hi0, op0⟩ T F ps0 pa0 pc0 qs0 qa0 qc0 w' hpc hpm (hPs.ex k) hqc hqm hqn (hQs.ex k)
        unfold PostAk askR at HA
        generalize cellsT ps0 = ps at HA
        generalize qs0.take 12 = qs at HA
        generalize cutR ⟨lo0, hi0, op0⟩ = R at HA
        dsimp only at HA
        generalize ps0.length = pn0 at *
        generalize qs0.length = qn0 at *
        clear hcell hs3 hPs hQs hpc hpm hqc hqm hqn
        go_wp2
        obtain ⟨q, hq⟩ : ∃ q, B.heap.size + X.blocks.length = q := ⟨_, rfl⟩
        obtain ⟨W5, hW5⟩ : ∃ W5, (wx B X).alloc (.cells #[.string lo0, .string hi0, .bool op0, I T, I F, .slice pa0 pn0 pc0, .slice qa0 qn0 qc0] 29) = W5 := ⟨_, rfl⟩
        have hk5 : Ex B W5 := by rw [← hW5]; exact (by (try show Ex _ _); with_reducible repeat (first | exact ex_refl _ | assumption | refine ex_drewL ?_ | refine ex_appR ?_ _ | refine ex_wx ?_ _ | refine ex_drew ?_ | refine ex_alloc ?_ _))
        have hb5 : W5.heap[q]? = some (.cells #[.string lo0, .string hi0, .bool op0, I T, I F, .slice pa0 pn0 pc0, .slice qa0 qn0 qc0] 29) := by
          rw [← hW5, ← hq, ← wx_size]; exact heap_alloc_new _ _
        rw [hq, hW5]
        obtain ⟨m5, mf5⟩ := block_cellsF (n := 7) hb5 rfl
        have z5 := (Array.getElem?_eq_some_iff.1 hb5).1
        clear hb5 hW5 hq mf5
        have HA5 := Lib.hid fun w' (k : Ex W5 w') => HA.out w' (ex_trans hk5 k)
        clear HA
        have tok : True := trivial
        refine wp_mid (fun a0 a' w' => midY W5 R T F ps qs [33, 34, 35, 36, 9, 10] a0 a' w') ?_ ?_
        · refine wp_region_forkJ (W5) (.look 0 (.look 2 (.three 1 (.three 3 (.fork 4 (.eff 5 (.eff 6 (.eff 7 .done))) 5 (.eff 4 (.eff 6 (.eff 7 .done)))) 4 (.fork 3 (.eff 5 (.eff 6 (.eff 7 .done))) 5 (.eff 3 (.eff 6 (.eff 7 .done)))) 5 (.fork 3 (.eff 4 (.eff 6 (.eff 7 .done))) 4 (.eff 3 (.eff 6 (.eff 7 .done))))) 4 (.fork 1 (.fork 3 (.eff 5 (.eff 6 (.eff 7 .done))) 5 (.eff 3 (.eff 6 (.eff 7 .done)))) 5 (.eff 1 (.eff 3 (.eff 6 (.eff 7 .done))))) 5 (.fork 1 (.fork 3 (.eff 4 (.eff 6 (.eff 7 .done))) 4 (.eff 3 (.eff 6 (.eff 7 .done)))) 4 (.eff 1 (.eff 3 (.eff 6 (.eff 7 .done)))))))) (by (try show Ex _ _); with_reducible repeat (first | exact ex_refl _ | assumption | refine ex_drewL ?_ | refine ex_appR ?_ _ | refine ex_wx ?_ _ | refine ex_drew ?_ | refine ex_alloc ?_ _)) (by kernel_rfl) (by kernel_rfl) (fun _ _ d _ _ h => by cases d <;> exact h) ?_
          simp only [Fj.ops, nth]
          repeat (first | ((with_reducible refine wpForkJ_look ?_); go_big_quiet_step (fail); (try (with_reducible refine wpQuiet_nil ?_))) | (with_reducible refine wpForkJ_eff ?_) | ((with_reducible refine effT_F ?_ ?_); (focus rfl); go_simp) | ((with_reducible refine effT_T ?_ ?_); (focus rfl); (try dsimp only); go_wp2_with (first | (go_at_call 13; have _t := tok; clear tok; (with_reducible refine (HA5.out _ (by (try show Ex _ _); with_reducible repeat (first | exact ex_refl _ | assumption | refine ex_drewL ?_ | refine ex_appR ?_ _ | refine ex_wx ?_ _ | refine ex_drew ?_ | refine ex_alloc ?_ _))).mono ?_); rintro e w' ⟨v2, v3, rfl, h2, h3, X1, rfl⟩; (try simp only [wx_wx, wx_drew] at h2 h3); obtain ⟨a3, c3, rfl, _⟩ := h2.slg; obtain ⟨a4, c4, rfl, _⟩ := h3.slg; replace h2 := Lib.hid (show ∃ Z, OwnP _ Z _ _ from ⟨_, h2⟩); replace h3 := Lib.hid (show ∃ Z, OwnD _ Z _ _ from ⟨_, h3⟩)) | (go_at_call 13; (with_reducible refine (HA5.out _ (by (try show Ex _ _); with_reducible repeat (first | exact ex_refl _ | assumption | refine ex_drewL ?_ | refine ex_appR ?_ _ | refine ex_wx ?_ _ | refine ex_drew ?_ | refine ex_alloc ?_ _))).mono ?_); rintro e w' ⟨v6, v7, rfl, h6, h7, X4, rfl⟩; (try simp only [wx_wx, wx_drew] at h6 h7); obtain ⟨a6, c6, rfl, _⟩ := h6.slg; obtain ⟨a7, c7, rfl, _⟩ := h7.slg; replace h6 := Lib.hid (show ∃ Z, OwnP _ Z _ _ from ⟨_, h6⟩); replace h7 := Lib.hid (show ∃ Z, OwnD _ Z _ _ from ⟨_, h7⟩))); refine mixQ_mk (by (try show Ex _ _); with_reducible repeat (first | exact ex_refl _ | assumption | refine ex_drewL ?_ | refine ex_appR ?_ _ | refine ex_wx ?_ _ | refine ex_drew ?_ | refine ex_alloc ?_ _)) ?_))
          all_goals (try (first | (with_reducible refine wpForkJ_fork ?_ ?_) | (with_reducible refine wpForkJ_three ?_ ?_ ?_)))
          all_goals repeat (first | ((with_reducible refine wpForkJ_look ?_); go_big_quiet_step (fail); (try (with_reducible refine wpQuiet_nil ?_))) | (with_reducible refine wpForkJ_eff ?_) | ((with_reducible refine effT_F ?_ ?_); (focus rfl); go_simp) | ((with_reducible refine effT_T ?_ ?_); (focus rfl); (try dsimp only); go_wp2_with (first | (go_at_call 13; have _t := tok; clear tok; (with_reducible refine (HA5.out _ (by (try show Ex _ _); with_reducible repeat (first | exact ex_refl _ | assumption | refine ex_drewL ?_ | refine ex_appR ?_ _ | refine ex_wx ?_ _ | refine ex_drew ?_ | refine ex_alloc ?_ _))).mono ?_); rintro e w' ⟨v2, v3, rfl, h2, h3, X1, rfl⟩; (try simp only [wx_wx, wx_drew] at h2 h3); obtain ⟨a3, c3, rfl, _⟩ := h2.slg; obtain ⟨a4, c4, rfl, _⟩ := h3.slg; replace h2 := Lib.hid (show ∃ Z, OwnP _ Z _ _ from ⟨_, h2⟩); replace h3 := Lib.hid (show ∃ Z, OwnD _ Z _ _ from ⟨_, h3⟩)) | (go_at_call 13; (with_reducible refine (HA5.out _ (by (try show Ex _ _); with_reducible repeat (first | exact ex_refl _ | assumption | refine ex_drewL ?_ | refine ex_appR ?_ _ | refine ex_wx ?_ _ | refine ex_drew ?_ | refine ex_alloc ?_ _))).mono ?_); rintro e w' ⟨v6, v7, rfl, h6, h7, X4, rfl⟩; (try simp only [wx_wx, wx_drew] at h6 h7); obtain ⟨a6, c6, rfl, _⟩ := h6.slg; obtain ⟨a7, c7, rfl, _⟩ := h7.slg; replace h6 := Lib.hid (show ∃ Z, OwnP _ Z _ _ from ⟨_, h6⟩); replace h7 := Lib.hid (show ∃ Z, OwnD _ Z _ _ from ⟨_, h7⟩))); refine mixQ_mk (by (try show Ex _ _); with_reducible repeat (first | exact ex_refl _ | assumption | refine ex_drewL ?_ | refine ex_appR ?_ _ | refine ex_wx ?_ _ | refine ex_drew ?_ | refine ex_alloc ?_ _)) ?_))
          all_goals (try (first | (with_reducible refine wpForkJ_fork ?_ ?_) | (with_reducible refine wpForkJ_three ?_ ?_ ?_)))
          all_goals repeat (first | ((with_reducible refine wpForkJ_look ?_); go_big_quiet_step (fail); (try (with_reducible refine wpQuiet_nil ?_))) | (with_reducible refine wpForkJ_eff ?_) | ((with_reducible refine effT_F ?_ ?_); (focus rfl); go_simp) | ((with_reducible refine effT_T ?_ ?_); (focus rfl); (try dsimp only); go_wp2_with (first | (go_at_call 13; have _t := tok; clear tok; (with_reducible refine (HA5.out _ (by (try show Ex _ _); with_reducible repeat (first | exact ex_refl _ | assumption | refine ex_drewL ?_ | refine ex_appR ?_ _ | refine ex_wx ?_ _ | refine ex_drew ?_ | refine ex_alloc ?_ _))).mono ?_); rintro e w' ⟨v2, v3, rfl, h2, h3, X1, rfl⟩; (try simp only [wx_wx, wx_drew] at h2 h3); obtain ⟨a3, c3, rfl, _⟩ := h2.slg; obtain ⟨a4, c4, rfl, _⟩ := h3.slg; replace h2 := Lib.hid (show ∃ Z, OwnP _ Z _ _ from ⟨_, h2⟩); replace h3 := Lib.hid (show ∃ Z, OwnD _ Z _ _ from ⟨_, h3⟩)) | (go_at_call 13; (with_reducible refine (HA5.out _ (by (try show Ex _ _); with_reducible repeat (first | exact ex_refl _ | assumption | refine ex_drewL ?_ | refine ex_appR ?_ _ | refine ex_wx ?_ _ | refine ex_drew ?_ | refine ex_alloc ?_ _))).mono ?_); rintro e w' ⟨v6, v7, rfl, h6, h7, X4, rfl⟩; (try simp only [wx_wx, wx_drew] at h6 h7); obtain ⟨a6, c6, rfl, _⟩ := h6.slg; obtain ⟨a7, c7, rfl, _⟩ := h7.slg; replace h6 := Lib.hid (show ∃ Z, OwnP _ Z _ _ from ⟨_, h6⟩); replace h7 := Lib.hid (show ∃ Z, OwnD _ Z _ _ from ⟨_, h7⟩))); refine mixQ_mk (by (try show Ex _ _); with_reducible repeat (first | exact ex_refl _ | assumption | refine ex_drewL ?_ | refine ex_appR ?_ _ | refine ex_wx ?_ _ | refine ex_drew ?_ | refine ex_alloc ?_ _)) ?_))
          all_goals (try (first | (with_reducible refine wpForkJ_fork ?_ ?_) | (with_reducible refine wpForkJ_three ?_ ?_ ?_)))
          all_goals repeat (first | ((with_reducible refine wpForkJ_look ?_); go_big_quiet_step (fail); (try (with_reducible refine wpQuiet_nil ?_))) | (with_reducible refine wpForkJ_eff ?_) | ((with_reducible refine effT_F ?_ ?_); (focus rfl); go_simp) | ((with_reducible refine effT_T ?_ ?_); (focus rfl); (try dsimp only); go_wp2_with (first | (go_at_call 13; have _t := tok; clear tok; (with_reducible refine (HA5.out _ (by (try show Ex _ _); with_reducible repeat (first | exact ex_refl _ | assumption | refine ex_drewL ?_ | refine ex_appR ?_ _ | refine ex_wx ?_ _ | refine ex_drew ?_ | refine ex_alloc ?_ _))).mono ?_); rintro e w' ⟨v2, v3, rfl, h2, h3, X1, rfl⟩; (try simp only [wx_wx, wx_drew] at h2 h3); obtain ⟨a3, c3, rfl, _⟩ := h2.slg; obtain ⟨a4, c4, rfl, _⟩ := h3.slg; replace h2 := Lib.hid (show ∃ Z, OwnP _ Z _ _ from ⟨_, h2⟩); replace h3 := Lib.hid (show ∃ Z, OwnD _ Z _ _ from ⟨_, h3⟩)) | (go_at_call 13; (with_reducible refine (HA5.out _ (by (try show Ex _ _); with_reducible repeat (first | exact ex_refl _ | assumption | refine ex_drewL ?_ | refine ex_appR ?_ _ | refine ex_wx ?_ _ | refine ex_drew ?_ | refine ex_alloc ?_ _))).mono ?_); rintro e w' ⟨v6, v7, rfl, h6, h7, X4, rfl⟩; (try simp only [wx_wx, wx_drew] at h6 h7); obtain ⟨a6, c6, rfl, _⟩ := h6.slg; obtain ⟨a7, c7, rfl, _⟩ := h7.slg; replace h6 := Lib.hid (show ∃ Z, OwnP _ Z _ _ from ⟨_, h6⟩); replace h7 := Lib.hid (show ∃ Z, OwnD _ Z _ _ from ⟨_, h7⟩))); refine mixQ_mk (by (try show Ex _ _); with_reducible repeat (first | exact ex_refl _ | assumption | refine ex_drewL ?_ | refine ex_appR ?_ _ | refine ex_wx ?_ _ | refine ex_drew ?_ | refine ex_alloc ?_ _)) ?_))
          all_goals (with_reducible refine wpForkJ_nil ?_)
          all_goals
            exact midY_mk rfl rfl (by kernel_rfl) (by unfold askR; first | (simp [go_sem]; done) | (simp [go_sem] <;> (intro h9; exfalso; omega))) (by unfold askR; first | (simp [go_sem]; done) | (simp [go_sem] <;> (intro h9; exfalso; omega))) (h2.out.elim fun Z h => ⟨Z, h.ktS (by repeat (first | (with_reducible exact Kt.refl _) | (with_reducible refine Kt.ofSt ?_; ((repeat (first | (with_reducible exact St.refl _) | (with_reducible refine St.wx ?_ _) | (with_reducible refine St.alloc ?_ _) | (with_reducible refine St.turn ?_ (by decide)))); done)) | (with_reducible refine Kt.allocR ?_ _) | (with_reducible refine Kt.appR ?_ _) | (with_reducible refine Kt.wxR ?_ _)))⟩) (h3.out.elim fun Z h => ⟨Z, h.kt (by repeat (first | (with_reducible exact Kt.refl _) | (with_reducible refine Kt.ofSt ?_; ((repeat (first | (with_reducible exact St.refl _) | (with_reducible refine St.wx ?_ _) | (with_reducible refine St.alloc ?_ _) | (with_reducible refine St.turn ?_ (by decide)))); done)) | (with_reducible refine Kt.allocR ?_ _) | (with_reducible refine Kt.appR ?_ _) | (with_reducible refine Kt.wxR ?_ _)))⟩) (h6.out.elim fun Z h => ⟨Z, h.ktS (by repeat (first | (with_reducible exact Kt.refl _) | (with_reducible refine Kt.ofSt ?_; ((repeat (first | (with_reducible exact St.refl _) | (with_reducible refine St.wx ?_ _) | (with_reducible refine St.alloc ?_ _) | (with_reducible refine St.turn ?_ (by decide)))); done)) | (with_reducible refine Kt.allocR ?_ _) | (with_reducible refine Kt.appR ?_ _) | (with_reducible refine Kt.wxR ?_ _)))⟩) (h7.out.elim fun Z h => ⟨Z, h.kt (by repeat (first | (with_reducible exact Kt.refl _) | (with_reducible refine Kt.ofSt ?_; ((repeat (first | (with_reducible exact St.refl _) | (with_reducible refine St.wx ?_ _) | (with_reducible refine St.alloc ?_ _) | (with_reducible refine St.turn ?_ (by decide)))); done)) | (with_reducible refine Kt.allocR ?_ _) | (with_reducible refine Kt.appR ?_ _) | (with_reducible refine Kt.wxR ?_ _)))⟩) (by simp [go_sem] <;> omega) (by simp [go_sem] <;> omega) (by (try show Ex _ _); with_reducible repeat (first | exact ex_refl _ | assumption | refine ex_drewL ?_ | refine ex_appR ?_ _ | refine ex_wx ?_ _ | refine ex_drew ?_ | refine ex_alloc ?_ _))
        rintro a0 W6 hmid
        obtain ⟨b7, b8, pa, pc, qa, qc, pa', pc', qa', qc', g8, g9, ha0, d1, d2, ⟨hm1', hm2'⟩, ⟨hm3', hm4'⟩, hb7, hb8, hk6'⟩ := hmid
        have hk6 := Lib.hid hk6'
        have hm1 := Lib.hid hm1'
        have hm2 := Lib.hid hm2'
        have hm3 := Lib.hid hm3'
        have hm4 := Lib.hid hm4'
        clear hk6' hm1' hm2' hm3' hm4'
        simp only [List.foldl] at ha0
        rw [g8, g9] at ha0
        clear g8 g9
        generalize a0.tmps.getD 33 undef = u33 at ha0
        generalize a0.tmps.getD 34 undef = u34 at ha0
        generalize a0.tmps.getD 35 undef = u35 at ha0
        generalize a0.tmps.getD 36 undef = u36 at ha0
        subst ha0
        obtain ⟨d13, d14⟩ := ask_parts d1
        obtain ⟨d23, d24⟩ := ask_parts d2
        have hkB6 : Hid (Ex B W6) := Lib.hid (ex_trans hk5 hk6.out)
        have HL6 := Lib.hid (HL4.out.ex hkB6.out)
        have G6 := GB.ex hkB6.out
        obtain ⟨_, _, hv, p1, p2, _, p4⟩ := (hm1.out).choose_spec.slg
        cases hv
        obtain ⟨_, _, hv, q1, q2, _, q4⟩ := (hm2.out).choose_spec.slg
        cases hv
        obtain ⟨_, _, hv, p1', p2', _, p4'⟩ := (hm3.out).choose_spec.slg
        cases hv
        obtain ⟨_, _, hv, q1', q2', _, q4'⟩ := (hm4.out).choose_spec.slg
        cases hv
        have HT := Lib.hid (spansP_told W lv R T F ps qs)
        obtain ⟨o1, ho1⟩ : ∃ o, spansP W lv R T F ps qs = o := ⟨_, rfl⟩
        obtain ⟨r, hr⟩ : ∃ r, spansC W lv R T F ps qs = r := ⟨_, rfl⟩
        obtain ⟨sT, hsT⟩ : ∃ o, spanT W lv R T F ps qs = o := ⟨_, rfl⟩
        rw [ho1, hr] at HT
        obtain ⟨tl, htl⟩ : ∃ tl, (if r.1 then amongL ps R else []) = tl := ⟨_, rfl⟩
        rw [htl] at HT
        obtain ⟨bb, hbb⟩ : ∃ bb, r.1 = bb := ⟨_, rfl⟩
        have HS : Hid (∀ w' la lc, Ex W6 w' → lv.length ≤ lc → lc ≤ maxLen → SlP w' la lv → Calls Tryd.prog 14 #[I W, .slice la lv.length lc, .agg (RC R), .agg #[I T, I F, .slice pa ps.length pc, .slice qa qs.length qc]] w' (fun e w2 => ∃ v, e = .returned (.tuple #[v, .bool bb]) ∧ OwnP w2 w'.heap.size v tl ∧ ∃ X, w2 = wx w' X)) := Lib.hid fun w' la lc k k1 k2 k4 => by
          have := Spans_any G6 W lv la lc R T F ps pa pc qs qa qc w' k1 k2 k4 p1 p2 (p4.ex k) q1 q2 (q4.ex k) k
          rw [ho1] at this
          unfold PostSs at this
          rw [HT.out.1, HT.out.2, hbb] at this
          exact this
        have HSd : Hid (∀ w', Ex W6 w' → Calls Tryd.prog 51 #[I W, .slice la lv.length lc, .agg (RC R), .agg #[I T, I F, .slice pa' ps.length pc', .slice qa' qs.length qc']] w' (fun e w2 => ∃ v cv, e = .returned (.tuple #[v, .bool bb, cv]) ∧ (∃ X, w2 = wx w' X) ∧ OwnP w2 w'.heap.size v tl)) := Lib.hid fun w' k => (dSpans_any W lv la lc R T F ps pa' pc' qs qa' qc' w' (HN.out ▸ l1) l2 (HL6.out.ex k) p1' p2' (p4'.ex k) q1' q2' (q4'.ex k)).mono fun e w2 hh => by
          rw [hr] at hh
          obtain ⟨v, cv, c', h1, h2, h3, _⟩ := hh
          rw [htl] at h3
          rw [hbb] at h1
          exact ⟨v, cv, h1, h2, h3⟩
        have HSp : Hid (∀ w' la lc, Ex W6 w' → lv.length ≤ lc → lc ≤ maxLen → SlP w' la lv → Calls Tryd.prog 15 #[I W, .slice la lv.length lc, .agg (RC R), .agg #[I T, I F, .slice pa ps.length pc, .slice qa qs.length qc]] w' (PostClT w' sT)) := Lib.hid fun w' la lc k k1 k2 k4 => by
          rw [← hsT]
          exact Span_any G6 W lv la lc R T F ps pa pc qs qa qc w' k1 k2 k4 p1 p2 (p4.ex k) q1 q2 (q4.ex k) k
        have HSq : Hid (∀ w', Ex W6 w' → Calls Tryd.prog 52 #[I W, .slice la lv.length lc, .agg (RC R), .agg #[I T, I F, .slice pa' ps.length pc', .slice qa' qs.length qc']] w' (PostClT w' sT)) := Lib.hid fun w' k => by
          rw [← hsT]
          exact dSpan_any W lv la lc R T F ps pa' pc' qs qa' qc' w' (HN.out ▸ l1) l2 (HL6.out.ex k) p1' p2' (p4'.ex k) q1' q2' (q4'.ex k)
        have HSm := Lib.hid fun a1 a2 c1 c2 w' h1 h2 h3 h4 h5 h6 => sameC_any tl tl a1 a2 c1 c2 w' h1 h2 h3 h4 h5 h6
        rw [decide_eq_true rfl] at HSm
        have HSs : Hid (∀ w', Ex W6 w' → Calls Tryd.prog 54 #[.agg #[I T, I F, .slice pa ps.length pc, .slice qa qs.length qc], .agg #[I T, I F, .slice pa' ps.length pc', .slice qa' qs.length qc']] w' (Post w' (.bool true))) := Lib.hid fun w' k =>
          samespan_same T F ps qs pa qa pa' qa' pc qc pc' qc' w' p1 p2 (p4.ex k) p1' p2' (p4'.ex k) q1 q2 (q4.ex k) q1' q2' (q4'.ex k)
        have hN := HN.out.symm
        obtain ⟨lo, hi, op⟩ := R
        unfold RC at HS HSd HSp HSq
        dsimp only at HS HSd HSp HSq d13 d23
        simp only [hN] at HS HSd HSp HSq
        generalize ps.length = pn at *
        generalize qs.length = qn at *
        clear m5 hc1 HA5 z5 hN ho1 hr hsT htl hbb HT p1 p2 p4 q1 q2 q4 p1' p2' p4' q1' q2' q4' hm1 hm2 hm3 hm4 d1 d2 tok hll
        go_wp2
        go_simp
        refine wp_region_seqA (W6) [(0, true), (2, true), (4, true), (5, true), (6, true), (7, true), (1, false), (3, false), (8, false), (9, true), (10, true), (11, true), (12, true), (13, true)] (by (try show Ex _ _); with_reducible repeat (first | exact ex_refl _ | assumption | refine ex_drewL ?_ | refine ex_appR ?_ _ | refine ex_wx ?_ _ | refine ex_drew ?_ | refine ex_alloc ?_ _)) (by kernel_rfl) (by kernel_rfl) (fun _ _ d _ _ h => by cases d <;> exact h) ?_
        simp only [List.map_cons, List.map_nil, nth]
        repeat (first | ((with_reducible refine wpSeq_look ?_); go_big_quiet_step (fail); (with_reducible refine wpQuiet_nil ?_)) | ((with_reducible refine wpSeq_effF ?_ ?_); (focus rfl); go_simp) | ((with_reducible refine wpSeq_eff ?_ ?_); (focus rfl); (try dsimp only); go_wp2_with (first | (at_builtin; refine wpAppPN (r := lv) _ _ rfl rfl rfl rfl HN.out l1 l3 (HL6.out.ex (by (try show Ex _ _); with_reducible repeat (first | exact ex_refl _ | assumption | refine ex_drewL ?_ | refine ex_appR ?_ _ | refine ex_wx ?_ _ | refine ex_drew ?_ | refine ex_alloc ?_ _))) hl0 hlm (fun a8 c8 w8 e1 e2 e4 e5 => ?_); obtain ⟨X12, rfl⟩ := e5; (try simp only [wx_wx, wx_drew] at e4); replace e4 := Lib.hid e4) | (go_at_call 14; (with_reducible refine (HS.out _ _ _ (by (try show Ex _ _); with_reducible repeat (first | exact ex_refl _ | assumption | refine ex_drewL ?_ | refine ex_appR ?_ _ | refine ex_wx ?_ _ | refine ex_drew ?_ | refine ex_alloc ?_ _)) e1 e2 (e4.out.ex (by (try show Ex _ _); with_reducible repeat (first | exact ex_refl _ | assumption | refine ex_drewL ?_ | refine ex_appR ?_ _ | refine ex_wx ?_ _ | refine ex_drew ?_ | refine ex_alloc ?_ _)))).mono ?_); rintro e w' ⟨v9, rfl, h9, X13, rfl⟩; (try simp only [wx_wx, wx_drew] at h9); obtain ⟨a9, c9, rfl, f91, f92, _, f94⟩ := h9.slg; clear h9; replace f94 := Lib.hid f94)); refine mixQ_mk (by (try show Ex _ _); with_reducible repeat (first | exact ex_refl _ | assumption | refine ex_drewL ?_ | refine ex_appR ?_ _ | refine ex_wx ?_ _ | refine ex_drew ?_ | refine ex_alloc ?_ _)) ?_))
        refine wpSeq_nil ?_
        go_wp2_with (go_at_call 51; (with_reducible refine (HSd.out _ (by (try show Ex _ _); with_reducible repeat (first | exact ex_refl _ | assumption | refine ex_drewL ?_ | refine ex_appR ?_ _ | refine ex_wx ?_ _ | refine ex_drew ?_ | refine ex_alloc ?_ _))).mono ?_); rintro e w' ⟨v10, cv, rfl, ⟨X14, rfl⟩, h10⟩; (try simp only [wx_wx, wx_drew] at h10); obtain ⟨a10, c10, rfl, f101, f102, _, f104⟩ := h10.slg; clear h10; replace f104 := Lib.hid f104)
        refine wp_region_forkJ (W6) (.look 0 (.look 2 (.look 4 (.look 5 (.look 6 (.look 7 (.fork 1 (.fork 3 (.fork 8 (.look 9 (.look 10 (.look 11 (.eff 12 (.eff 13 (.look 14 .done)))))) 12 (.eff 8 (.look 9 (.look 10 (.look 11 (.eff 13 (.look 14 .done))))))) 12 (.eff 3 (.eff 8 (.look 9 (.look 10 (.look 11 (.eff 13 (.look 14 .done)))))))) 12 (.eff 1 (.eff 3 (.eff 8 (.look 9 (.look 10 (.look 11 (.eff 13 (.look 14 .done))))))))))))))) (by (try show Ex _ _); with_reducible repeat (first | exact ex_refl _ | assumption | refine ex_drewL ?_ | refine ex_appR ?_ _ | refine ex_wx ?_ _ | refine ex_drew ?_ | refine ex_alloc ?_ _)) (by kernel_rfl) (by kernel_rfl) (fun _ _ d _ _ h => by cases d <;> exact h) ?_
        simp only [Fj.ops, nth]
        repeat (first | ((with_reducible refine wpForkJ_look ?_); go_big_quiet_step (fail); (try (with_reducible refine wpQuiet_nil ?_))) | (with_reducible refine wpForkJ_eff ?_) | ((with_reducible refine effT_F ?_ ?_); (focus rfl); go_simp) | ((with_reducible refine effT_T ?_ ?_); (focus rfl); (try dsimp only); go_wp2_with (first | (at_builtin; refine wpAppPN (r := lv) _ _ rfl rfl rfl rfl HN.out l1 l3 (HL6.out.ex (by (try show Ex _ _); with_reducible repeat (first | exact ex_refl _ | assumption | refine ex_drewL ?_ | refine ex_appR ?_ _ | refine ex_wx ?_ _ | refine ex_drew ?_ | refine ex_alloc ?_ _))) hl0 hlm (fun a11 c11 w11 s1 s2 s4 s5 => ?_); obtain ⟨X15, rfl⟩ := s5; (try simp only [wx_wx, wx_drew] at s4); replace s4 := Lib.hid s4) | (go_at_call 15; (with_reducible refine (HSp.out _ _ _ (by (try show Ex _ _); with_reducible repeat (first | exact ex_refl _ | assumption | refine ex_drewL ?_ | refine ex_appR ?_ _ | refine ex_wx ?_ _ | refine ex_drew ?_ | refine ex_alloc ?_ _)) s1 s2 (s4.out.ex (by (try show Ex _ _); with_reducible repeat (first | exact ex_refl _ | assumption | refine ex_drewL ?_ | refine ex_appR ?_ _ | refine ex_wx ?_ _ | refine ex_drew ?_ | refine ex_alloc ?_ _)))).mono ?_); rintro e w' ⟨sa, sb, rfl, ⟨X16, rfl⟩, h8⟩; (try simp only [wx_wx, wx_drew] at h8); obtain ⟨t1, t2⟩ := h8.one; replace h8 := Lib.hid h8)); refine mixQ_mk (by (try show Ex _ _); with_reducible repeat (first | exact ex_refl _ | assumption | refine ex_drewL ?_ | refine ex_appR ?_ _ | refine ex_wx ?_ _ | refine ex_drew ?_ | refine ex_alloc ?_ _)) ?_))
        all_goals (try (first | (with_reducible refine wpForkJ_fork ?_ ?_) | (with_reducible refine wpForkJ_three ?_ ?_ ?_)))
        all_goals repeat (first | ((with_reducible refine wpForkJ_look ?_); go_big_quiet_step (fail); (try (with_reducible refine wpQuiet_nil ?_))) | (with_reducible refine wpForkJ_eff ?_) | ((with_reducible refine effT_F ?_ ?_); (focus rfl); go_simp) | ((with_reducible refine effT_T ?_ ?_); (focus rfl); (try dsimp only); go_wp2_with (first | (at_builtin; refine wpAppPN (r := lv) _ _ rfl rfl rfl rfl HN.out l1 l3 (HL6.out.ex (by (try show Ex _ _); with_reducible repeat (first | exact ex_refl _ | assumption | refine ex_drewL ?_ | refine ex_appR ?_ _ | refine ex_wx ?_ _ | refine ex_drew ?_ | refine ex_alloc ?_ _))) hl0 hlm (fun a11 c11 w11 s1 s2 s4 s5 => ?_); obtain ⟨X15, rfl⟩ := s5; (try simp only [wx_wx, wx_drew] at s4); replace s4 := Lib.hid s4) | (go_at_call 15; (with_reducible refine (HSp.out _ _ _ (by (try show Ex _ _); with_reducible repeat (first | exact ex_refl _ | assumption | refine ex_drewL ?_ | refine ex_appR ?_ _ | refine ex_wx ?_ _ | refine ex_drew ?_ | refine ex_alloc ?_ _)) s1 s2 (s4.out.ex (by (try show Ex _ _); with_reducible repeat (first | exact ex_refl _ | assumption | refine ex_drewL ?_ | refine ex_appR ?_ _ | refine ex_wx ?_ _ | refine ex_drew ?_ | refine ex_alloc ?_ _)))).mono ?_); rintro e w' ⟨sa, sb, rfl, ⟨X16, rfl⟩, h8⟩; (try simp only [wx_wx, wx_drew] at h8); obtain ⟨t1, t2⟩ := h8.one; replace h8 := Lib.hid h8)); refine mixQ_mk (by (try show Ex _ _); with_reducible repeat (first | exact ex_refl _ | assumption | refine ex_drewL ?_ | refine ex_appR ?_ _ | refine ex_wx ?_ _ | refine ex_drew ?_ | refine ex_alloc ?_ _)) ?_))
        all_goals (try (first | (with_reducible refine wpForkJ_fork ?_ ?_) | (with_reducible refine wpForkJ_three ?_ ?_ ?_)))
        all_goals repeat (first | ((with_reducible refine wpForkJ_look ?_); go_big_quiet_step (fail); (try (with_reducible refine wpQuiet_nil ?_))) | (with_reducible refine wpForkJ_eff ?_) | ((with_reducible refine effT_F ?_ ?_); (focus rfl); go_simp) | ((with_reducible refine effT_T ?_ ?_); (focus rfl); (try dsimp only); go_wp2_with (first | (at_builtin; refine wpAppPN (r := lv) _ _ rfl rfl rfl rfl HN.out l1 l3 (HL6.out.ex (by (try show Ex _ _); with_reducible repeat (first | exact ex_refl _ | assumption | refine ex_drewL ?_ | refine ex_appR ?_ _ | refine ex_wx ?_ _ | refine ex_drew ?_ | refine ex_alloc ?_ _))) hl0 hlm (fun a11 c11 w11 s1 s2 s4 s5 => ?_); obtain ⟨X15, rfl⟩ := s5; (try simp only [wx_wx, wx_drew] at s4); replace s4 := Lib.hid s4) | (go_at_call 15; (with_reducible refine (HSp.out _ _ _ (by (try show Ex _ _); with_reducible repeat (first | exact ex_refl _ | assumption | refine ex_drewL ?_ | refine ex_appR ?_ _ | refine ex_wx ?_ _ | refine ex_drew ?_ | refine ex_alloc ?_ _)) s1 s2 (s4.out.ex (by (try show Ex _ _); with_reducible repeat (first | exact ex_refl _ | assumption | refine ex_drewL ?_ | refine ex_appR ?_ _ | refine ex_wx ?_ _ | refine ex_drew ?_ | refine ex_alloc ?_ _)))).mono ?_); rintro e w' ⟨sa, sb, rfl, ⟨X16, rfl⟩, h8⟩; (try simp only [wx_wx, wx_drew] at h8); obtain ⟨t1, t2⟩ := h8.one; replace h8 := Lib.hid h8)); refine mixQ_mk (by (try show Ex _ _); with_reducible repeat (first | exact ex_refl _ | assumption | refine ex_drewL ?_ | refine ex_appR ?_ _ | refine ex_wx ?_ _ | refine ex_drew ?_ | refine ex_alloc ?_ _)) ?_))
        all_goals (try (first | (with_reducible refine wpForkJ_fork ?_ ?_) | (with_reducible refine wpForkJ_three ?_ ?_ ?_)))
        all_goals repeat (first | ((with_reducible refine wpForkJ_look ?_); go_big_quiet_step (fail); (try (with_reducible refine wpQuiet_nil ?_))) | (with_reducible refine wpForkJ_eff ?_) | ((with_reducible refine effT_F ?_ ?_); (focus rfl); go_simp) | ((with_reducible refine effT_T ?_ ?_); (focus rfl); (try dsimp only); go_wp2_with (first | (at_builtin; refine wpAppPN (r := lv) _ _ rfl rfl rfl rfl HN.out l1 l3 (HL6.out.ex (by (try show Ex _ _); with_reducible repeat (first | exact ex_refl _ | assumption | refine ex_drewL ?_ | refine ex_appR ?_ _ | refine ex_wx ?_ _ | refine ex_drew ?_ | refine ex_alloc ?_ _))) hl0 hlm (fun a11 c11 w11 s1 s2 s4 s5 => ?_); obtain ⟨X15, rfl⟩ := s5; (try simp only [wx_wx, wx_drew] at s4); replace s4 := Lib.hid s4) | (go_at_call 15; (with_reducible refine (HSp.out _ _ _ (by (try show Ex _ _); with_reducible repeat (first | exact ex_refl _ | assumption | refine ex_drewL ?_ | refine ex_appR ?_ _ | refine ex_wx ?_ _ | refine ex_drew ?_ | refine ex_alloc ?_ _)) s1 s2 (s4.out.ex (by (try show Ex _ _); with_reducible repeat (first | exact ex_refl _ | assumption | refine ex_drewL ?_ | refine ex_appR ?_ _ | refine ex_wx ?_ _ | refine ex_drew ?_ | refine ex_alloc ?_ _)))).mono ?_); rintro e w' ⟨sa, sb, rfl, ⟨X16, rfl⟩, h8⟩; (try simp only [wx_wx, wx_drew] at h8); obtain ⟨t1, t2⟩ := h8.one; replace h8 := Lib.hid h8)); refine mixQ_mk (by (try show Ex _ _); with_reducible repeat (first | exact ex_refl _ | assumption | refine ex_drewL ?_ | refine ex_appR ?_ _ | refine ex_wx ?_ _ | refine ex_drew ?_ | refine ex_alloc ?_ _)) ?_))
        all_goals (with_reducible refine wpForkJ_nil ?_)
        all_goals
          go_wp2_with (first | (go_at_call 52; (with_reducible refine (HSq.out _ (by (try show Ex _ _); with_reducible repeat (first | exact ex_refl _ | assumption | refine ex_drewL ?_ | refine ex_appR ?_ _ | refine ex_wx ?_ _ | refine ex_drew ?_ | refine ex_alloc ?_ _))).mono ?_); rintro e w' ⟨sc, sd, rfl, ⟨X17, rfl⟩, h10⟩; (try simp only [wx_wx, wx_drew] at h10); obtain ⟨t3, t4⟩ := h10.one; replace h10 := Lib.hid h10) | (go_at_call 53; (with_reducible refine (HSm.out _ _ _ _ _ f91 f92 f101 f102 (f94.out.ex (by (try show Ex _ _); with_reducible repeat (first | exact ex_refl _ | assumption | refine ex_drewL ?_ | refine ex_appR ?_ _ | refine ex_wx ?_ _ | refine ex_drew ?_ | refine ex_alloc ?_ _))) (f104.out.ex (by (try show Ex _ _); with_reducible repeat (first | exact ex_refl _ | assumption | refine ex_drewL ?_ | refine ex_appR ?_ _ | refine ex_wx ?_ _ | refine ex_drew ?_ | refine ex_alloc ?_ _)))).mono ?_); rintro e w' ⟨rfl, X18, rfl⟩) | (go_at_call 34; (with_reducible refine (sameClash_o (h8.out.kt (by repeat (first | (with_reducible exact Kt.refl _) | (with_reducible refine Kt.ofSt ?_; ((repeat (first | (with_reducible exact St.refl _) | (with_reducible refine St.wx ?_ _) | (with_reducible refine St.alloc ?_ _) | (with_reducible refine St.turn ?_ (by decide)))); done)) | (with_reducible refine Kt.allocR ?_ _) | (with_reducible refine Kt.appR ?_ _) | (with_reducible refine Kt.wxR ?_ _)))) (h10.out.kt (by repeat (first | (with_reducible exact Kt.refl _) | (with_reducible refine Kt.ofSt ?_; ((repeat (first | (with_reducible exact St.refl _) | (with_reducible refine St.wx ?_ _) | (with_reducible refine St.alloc ?_ _) | (with_reducible refine St.turn ?_ (by decide)))); done)) | (with_reducible refine Kt.allocR ?_ _) | (with_reducible refine Kt.appR ?_ _) | (with_reducible refine Kt.wxR ?_ _))))).mono ?_); rintro e w' ⟨rfl, X19, rfl⟩) | (go_at_call 54; (with_reducible refine (HSs.out _ (by (try show Ex _ _); with_reducible repeat (first | exact ex_refl _ | assumption | refine ex_drewL ?_ | refine ex_appR ?_ _ | refine ex_wx ?_ _ | refine ex_drew ?_ | refine ex_alloc ?_ _))).mono ?_); rintro e w' ⟨rfl, X20, rfl⟩))
          exact ⟨⟨k + 1, by omega, by go_num, ex_trans hkB6.out (by (try show Ex _ _); with_reducible repeat (first | exact ex_refl _ | assumption | refine ex_drewL ?_ | refine ex_appR ?_ _ | refine ex_wx ?_ _ | refine ex_drew ?_ | refine ex_alloc ?_ _))⟩, by simp [intOf]; omega⟩
    · obtain rfl : k = n2 := by omega
      clear hlt hk hs3
      go_wp2
      go_ret
      exact post_mk rfl (ex_trans hwB.out (by (try show Ex _ _); with_reducible repeat (first | exact ex_refl _ | assumption | refine ex_drewL ?_ | refine ex_appR ?_ _ | refine ex_wx ?_ _ | refine ex_drew ?_ | refine ex_alloc ?_ _)))
end Go.Proofs.YtcdocklbpfdmeaaDoor
