import Derived.Test.YtcdocklbpfdmeaaDoorMGwG

/- Collide's document: grow, down on the left. -/
set_option linter.unusedSimpArgs false
set_option linter.unusedVariables false
set_option linter.unnecessarySimpa false
set_option maxRecDepth 20000
namespace Go.Proofs.YtcdocklbpfdmeaaDoor
open Go.RowKit
set_option maxHeartbeats 6000000 in
theorem dgrow_lo {A : World} (W : Nat) (hW : W ≤ 256) {p : Nat} (hp : A.heap.size ≤ p) {N k m lc rn pc : Nat} {g off g2 off2 : Nat} {old y : Dg} {known : Bool} {rT rD : Dg} {o : Option (Dg × Dg × Cl)} {c : Cl} {w : World}
    (hN : N ≤ 1024) (hm1 : 1 ≤ m) (hm : m < N) (hk1 : k < N) (hk2 : 1 ≤ k) (hmk : m ≤ k) (hlc : N ≤ lc) (hlm : lc ≤ maxLen) (hpc : rn + 1 ≤ pc) (hpm : pc ≤ maxLen) (kA : Ex A w) (hk : Cd w p c)
    (hpl1 : cellsN w g2 (off2 + rn * 32) 32 = some (rowB 32 (dF y))) (hpl2 : g2 < w.heap.size)
    (HSp : Hid (∀ w, Calls Tryd.prog 80 #[I N] w (fun e w' => e = .returned (I k) ∧ w = w')))
    (HT : Hid (∀ w', Ex w w' → Calls Tryd.prog 44 #[I W, .slice (some ⟨g, off, none⟩) k lc] w' (Post w' (.agg (rowB 32 (dF rT))))))
    (HD : Hid (∀ w', Ex w w' → Calls Tryd.prog 44 #[I W, .slice (some ⟨g, off + k, none⟩) (N - k) (lc - k)] w' (Post w' (.agg (rowB 32 (dF rD))))))
    (HC : Hid (∀ w', Ex w w' → Calls Tryd.prog 74 #[I W, .slice (some ⟨g, off, none⟩) k lc, I m, .agg (rowB 32 (dF old)), .bool known, .slice (some ⟨g2, off2, none⟩) rn pc, .pointer (some ⟨p, 0, none⟩)] w' (PostDG p w' o))) :
    Calls Tryd.prog 74 #[I W, .slice (some ⟨g, off, none⟩) N lc, I m, .agg (rowB 32 (dF old)), .bool known, .slice (some ⟨g2, off2, none⟩) ((rn + 1 : Nat)) pc, .pointer (some ⟨p, 0, none⟩)] w
      (PostDG p w (o.map fun x => (x.1, putC (sumW W) (twoL x.2.1 y) (twoL rT rD) x.2.2))) := by
            have H2 := Lib.hid (fun a b w => reftwo_any a b w)
            have HP : Hid (∀ x y' rT rD c1 w' v u, Cd w' p c1 → OwnU w' v (twoL x y') → OwnU w' u (twoL rT rD) → Calls Tryd.prog 92 #[I W, v, u, .pointer (some ⟨p, 0, none⟩)] w' (PostD p w' (.agg (rowB 32 (dF (putC (sumW W) (twoL x y') (twoL rT rD) c1).1))) (putC (sumW W) (twoL x y') (twoL rT rD) c1).2)) :=
              Lib.hid fun x y' rT rD c1 w' v u h0 h1 h2 => step_any W hW h0 h1 h2 (by rw [twoL_len]; omega) (by rw [twoL_len]; omega)
            have HS : Hid (∀ x y' w' v, OwnU w' v (twoL x y') → Calls Tryd.prog 26 #[I W, v] w' (Post w' (.agg (rowB 32 (dF (sumW W (twoL x y'))))))) := Lib.hid fun x y' w' v h => digest_any W hW h.slt (by rw [twoL_len]; omega)
            have hpw := hk.lt
            have HK := Lib.hid hk
            unfold maxLen at hlm hpm
            have e0 : ((m : Int) == N) = false := beq_eq_false_iff_ne.2 (by omega)
            have e1 : ((rn : Int) + 1 == 0) = false := beq_eq_false_iff_ne.2 (by omega)
            have e2 : (k : Int) ≤ N := by omega
            have e3 : (k : Int) ≤ lc := by omega
            have e4 : ¬ lc = k := by omega
            have e5 : (N : Int) ≤ lc := by omega
            have e6 : (m : Int) ≤ k := by omega
            clear hk
            go_enter Tryd.func74, Tryd.ntmps74
            go_wp2
            refine wp_region_two (((w.alloc (.cells (rowB 32 (dF old)) 46)).alloc (.cells (rowB 32 fun _ => 0) 46)).alloc (.cells (rowB 32 fun _ => 0) 46)) [.look 0, .look 1, .look 3, .look 4, .look 5, .look 6, .look 7, .look 8, .look 9, .look 10, .look 11, .look 12, .look 13, .two 2 14, .look 15, .eff 16, .look 17] (by (try show Ex _ _); repeat (first | (with_reducible exact ex_refl _) | (with_reducible assumption) | (with_reducible refine ex_drewL ?_) | (with_reducible refine ex_appR ?_ _) | (with_reducible refine ex_wx ?_ _) | (with_reducible refine ex_drew ?_) | (with_reducible refine ex_alloc ?_ _))) (by kernel_rfl) (by kernel_rfl) (fun _ _ d _ _ h => by cases d <;> exact h) ?_
            simp only [List.map_cons, List.map_nil, ixStp, nth]
            repeat (first | ((with_reducible refine wpTwo_look ?_); go_big_quiet_step (fail); (try (with_reducible refine wpQuiet_nil ?_))) | (with_reducible refine wpTwo_eff ?_) | ((with_reducible refine effT_F ?_ ?_); (focus rfl); go_simp) | ((with_reducible refine effT_T ?_ ?_); (focus rfl); (try dsimp only); go_wp2_with ((go_at_call 80; (with_reducible refine (HSp.out _).mono ?_); rintro e w' ⟨rfl, rfl⟩)); refine mixQ_mk (by (try show Ex _ _); repeat (first | (with_reducible exact ex_refl _) | (with_reducible assumption) | (with_reducible refine ex_drewL ?_) | (with_reducible refine ex_appR ?_ _) | (with_reducible refine ex_wx ?_ _) | (with_reducible refine ex_drew ?_) | (with_reducible refine ex_alloc ?_ _))) ?_))
            all_goals (with_reducible refine wpTwo_two ?_ ?_)
            all_goals repeat (first | ((with_reducible refine wpTwo_look ?_); go_big_quiet_step (fail); (try (with_reducible refine wpQuiet_nil ?_))) | (with_reducible refine wpTwo_eff ?_) | ((with_reducible refine effT_F ?_ ?_); (focus rfl); go_simp) | ((with_reducible refine effT_T ?_ ?_); (focus rfl); (try dsimp only); go_wp2_with ((go_at_call 80; (with_reducible refine (HSp.out _).mono ?_); rintro e w' ⟨rfl, rfl⟩)); refine mixQ_mk (by (try show Ex _ _); repeat (first | (with_reducible exact ex_refl _) | (with_reducible assumption) | (with_reducible refine ex_drewL ?_) | (with_reducible refine ex_appR ?_ _) | (with_reducible refine ex_wx ?_ _) | (with_reducible refine ex_drew ?_) | (with_reducible refine ex_alloc ?_ _))) ?_))
            all_goals (with_reducible refine wpTwo_nil ?_)
            all_goals
              go_wp2
              refine wp_region_seq [(0, true), (1, true), (2, true), (3, true), (5, true), (6, true), (7, true), (8, true), (4, false), (9, false), (10, false), (11, true)] (by kernel_rfl) (by kernel_rfl) (fun _ _ d _ _ h => by cases d <;> exact h) ?_
              simp only [List.map_cons, List.map_nil, nth]
              repeat (first | ((with_reducible refine wpSeq_look ?_); go_big_quiet_step (fail); (with_reducible refine wpQuiet_nil ?_)) | ((with_reducible refine wpSeq_effF ?_ ?_); (focus rfl); go_simp) | ((with_reducible refine wpSeq_eff ?_ ?_); (focus rfl); (try dsimp only); go_wp2_with (first | (go_at_call 44; (with_reducible refine (HT.out _ (by (try show Ex _ _); repeat (first | (with_reducible exact ex_refl _) | (with_reducible assumption) | (with_reducible refine ex_drewL ?_) | (with_reducible refine ex_appR ?_ _) | (with_reducible refine ex_wx ?_ _) | (with_reducible refine ex_drew ?_) | (with_reducible refine ex_alloc ?_ _)))).mono ?_); rintro e w2 ⟨rfl, X, rfl⟩) | (go_at_call 44; (with_reducible refine (HD.out _ (by (try show Ex _ _); repeat (first | (with_reducible exact ex_refl _) | (with_reducible assumption) | (with_reducible refine ex_drewL ?_) | (with_reducible refine ex_appR ?_ _) | (with_reducible refine ex_wx ?_ _) | (with_reducible refine ex_drew ?_) | (with_reducible refine ex_alloc ?_ _)))).mono ?_); rintro e w2 ⟨rfl, X, rfl⟩) | (go_at_call 81; (with_reducible refine (H2.out _ _ _).mono ?_); rintro e w2 ⟨v3, rfl, hv3, X, rfl⟩; (try simp only [wx_wx, wx_drew] at hv3))); refine mixQ_mk (by (try show Ex _ _); repeat (first | (with_reducible exact ex_refl _) | (with_reducible assumption) | (with_reducible refine ex_drewL ?_) | (with_reducible refine ex_appR ?_ _) | (with_reducible refine ex_wx ?_ _) | (with_reducible refine ex_drew ?_) | (with_reducible refine ex_alloc ?_ _))) ?_))
              refine wpSeq_nil ?_
              go_wp2
              refine wp_worldC fun A1 hA1 => ?_
              have kA1 : Ex (((w.alloc (.cells (rowB 32 (dF old)) 46)).alloc (.cells (rowB 32 fun _ => 0) 46)).alloc (.cells (rowB 32 fun _ => 0) 46)) A1 := by rw [← hA1]; exact (by (try show Ex _ _); repeat (first | (with_reducible exact ex_refl _) | (with_reducible assumption) | (with_reducible refine ex_drewL ?_) | (with_reducible refine ex_appR ?_ _) | (with_reducible refine ex_wx ?_ _) | (with_reducible refine ex_drew ?_) | (with_reducible refine ex_alloc ?_ _)))
              have kw1 : Ex w A1 := ex_trans (ex_alloc (ex_alloc (ex_alloc (ex_refl _) _) _) _) kA1
              have hbo := ex_block (ex_trans (ex_alloc (ex_alloc (ex_refl _) _) _) kA1) (heap_alloc_new w (.cells (rowB 32 (dF old)) 46))
              have hb1 := ex_block (ex_trans (ex_alloc (ex_refl _) _) kA1) (heap_alloc_new (w.alloc (.cells (rowB 32 (dF old)) 46)) (.cells (rowB 32 fun _ => 0) 46))
              have hb2 := ex_block kA1 (heap_alloc_new ((w.alloc (.cells (rowB 32 (dF old)) 46)).alloc (.cells (rowB 32 fun _ => 0) 46)) (.cells (rowB 32 fun _ => 0) 46))
              rw [World.size_alloc] at hb1
              rw [World.size_alloc, World.size_alloc] at hb2
              have hbl : A1.heap[w.heap.size + 1 + 1 + 1]? = some (.cells (rowB 32 (dF y)) 46 (0, 0)) := by
                rw [← hA1]
                refine ex_block (w := (((w.alloc (.cells (rowB 32 (dF old)) 46)).alloc (.cells (rowB 32 fun _ => 0) 46)).alloc (.cells (rowB 32 fun _ => 0) 46)).alloc (.cells (rowB 32 (dF y)) 46)) (by (try show Ex _ _); repeat (first | (with_reducible exact ex_refl _) | (with_reducible assumption) | (with_reducible refine ex_drewL ?_) | (with_reducible refine ex_appR ?_ _) | (with_reducible refine ex_wx ?_ _) | (with_reducible refine ex_drew ?_) | (with_reducible refine ex_alloc ?_ _))) ?_
                have h9 := heap_alloc_new (((w.alloc (.cells (rowB 32 (dF old)) 46)).alloc (.cells (rowB 32 fun _ => 0) 46)).alloc (.cells (rowB 32 fun _ => 0) 46)) (.cells (rowB 32 (dF y)) 46)
                rw [World.size_alloc, World.size_alloc, World.size_alloc] at h9
                exact h9
              replace hv3 : OwnU A1 v3 (twoL rT rD) := by rw [← hA1]; exact OwnU.ex hv3 (by (try show Ex _ _); repeat (first | (with_reducible exact ex_refl _) | (with_reducible assumption) | (with_reducible refine ex_drewL ?_) | (with_reducible refine ex_appR ?_ _) | (with_reducible refine ex_wx ?_ _) | (with_reducible refine ex_drew ?_) | (with_reducible refine ex_alloc ?_ _)))
              clear hA1
              obtain ⟨rl, hrl⟩ : ∃ rl, w.heap.size + 1 + 1 + 1 = rl := ⟨_, rfl⟩
              have hl3 : w.heap.size + 2 < rl := by omega
              rw [hrl] at hbl ⊢
              clear hrl
              obtain ⟨r2, hr2⟩ : ∃ r2, w.heap.size + 1 + 1 = r2 := ⟨_, rfl⟩
              rw [hr2] at hb2 ⊢
              obtain ⟨r1, hr1⟩ : ∃ r1, w.heap.size + 1 = r1 := ⟨_, rfl⟩
              rw [hr1] at hb1 ⊢
              obtain ⟨r0, hr0⟩ : ∃ r0, w.heap.size = r0 := ⟨_, rfl⟩
              rw [hr0] at hbo ⊢
              have hrp : r0 ≠ p ∧ r1 ≠ p ∧ r2 ≠ p ∧ rl ≠ p ∧ r1 ≠ r2 ∧ rl ≠ r1 ∧ rl ≠ r2 ∧ w.heap.size ≤ r1 ∧ w.heap.size ≤ r2 := by omega
              clear hr0 hr1 hr2 hl3
              obtain ⟨nn0, np1, np2, npl, n12, nl1, nl2, le1, le2⟩ := hrp
              obtain ⟨o0, fo0, zo0⟩ := block_cellsF (n := 32) hbo (by simp)
              have hz1 : r1 < A1.heap.size := (Array.getElem?_eq_some_iff.1 hb1).1
              have hz2 : r2 < A1.heap.size := (Array.getElem?_eq_some_iff.1 hb2).1
              have hzl : rl < A1.heap.size := (Array.getElem?_eq_some_iff.1 hbl).1
              have hzp : p < A1.heap.size := Nat.lt_of_lt_of_le hpw (ex_size kw1)
              obtain ⟨P1, hP1⟩ : ∃ P : Nat → Prop, P = fun k => k = p := ⟨_, rfl⟩
              have hoP : ¬ P1 r0 := by rw [hP1]; exact nn0
              have SQ1 : Hid (∀ w5, FrP p A1 w5 → Frm P1 A1 w5) := Lib.hid fun w5 F => F.mono fun b e => by rw [hP1]; exact e
              have hk1w := (HK.out.ex kw1)
              have hv3' := Lib.hid (fun w5 (F : FrP p A1 w5) => hv3.frm hk1w.nou F)
              replace hk1w := Lib.hid hk1w
              replace hbo := Lib.hid hbo
              replace hb1 := Lib.hid hb1
              replace hb2 := Lib.hid hb2
              replace hbl := Lib.hid hbl
              clear hv3 hP1
              refine wp_mid (fun a0 a' w' => midGd A1 p o 21 22 23 [82, 83, 84, 85, 86, 87, 88, 89, 90, 91, 81, 92, 93, 94, 21, 22, 23] a0 a' w') ?_ ?_
              · refine wp_region_forkK (fun w' => ∃ X, w' = kp A1 P1 X) (.look 0 (.look 1 (.look 2 (.look 3 (.look 4 (.look 5 (.look 6 (.look 7 (.look 8 (.three 9 (.look 10 (.look 11 (.look 12 (.look 13 (.fork 14 (.eff 15 (.eff 16 (.eff 17 (.look 18 .done)))) 15 (.eff 14 (.eff 16 (.eff 17 (.look 18 .done))))))))) 14 (.fork 9 (.look 10 (.look 11 (.look 12 (.look 13 (.eff 15 (.eff 16 (.eff 17 (.look 18 .done)))))))) 15 (.eff 9 (.look 10 (.look 11 (.look 12 (.look 13 (.eff 16 (.eff 17 (.look 18 .done))))))))) 15 (.fork 9 (.look 10 (.look 11 (.look 12 (.look 13 (.eff 14 (.eff 16 (.eff 17 (.look 18 .done)))))))) 14 (.eff 9 (.look 10 (.look 11 (.look 12 (.look 13 (.eff 16 (.eff 17 (.look 18 .done))))))))))))))))))) (⟨_, kp_of (fun _ _ _ => rfl)⟩) (by kernel_rfl) (by kernel_rfl) (fun _ _ d _ _ h => by cases d <;> exact h) ?_
                simp only [Fj.ops, nth]
                repeat (first | ((with_reducible refine wpForkK_look ?_); go_big_quiet_step (fail); (try (with_reducible refine wpQuiet_nil ?_))) | (with_reducible refine wpForkK_eff ?_) | ((with_reducible refine effH_F ?_ ?_); (focus rfl); go_simp) | ((with_reducible refine effH_T ?_ ?_); (focus rfl); (try dsimp only); go_wp2_with ((go_at_call 74; (with_reducible refine (HC.out _ (ex_trans kw1 (by (try show Ex _ _); repeat (first | (with_reducible exact ex_refl _) | (with_reducible assumption) | (with_reducible refine ex_drewL ?_) | (with_reducible refine ex_appR ?_ _) | (with_reducible refine ex_wx ?_ _) | (with_reducible refine ex_drew ?_) | (with_reducible refine ex_alloc ?_ _))))).mono ?_); rintro e w2 ⟨xa, xb, c1, rfl, F2', K2, hy⟩; have F2 : FrP p A1 w2 := (Frm.ex (by (try show Ex _ _); repeat (first | (with_reducible exact ex_refl _) | (with_reducible assumption) | (with_reducible refine ex_drewL ?_) | (with_reducible refine ex_appR ?_ _) | (with_reducible refine ex_wx ?_ _) | (with_reducible refine ex_drew ?_) | (with_reducible refine ex_alloc ?_ _)))).trans F2'; (try ((with_reducible refine fr32_try (r := A1.heap.size) (cs := rowB 32 fun _ => 0) F2' ?_ ?_ ?_ ?_ ?_); rotate_left; (focus ((repeat (first | (with_reducible assumption) | (with_reducible refine IdB.setsR ?_ _ _ _) | ((with_reducible refine IdB.new' ?_); (simp [go_sem]; done)) | (with_reducible refine IdB.allocR ?_ _) | (with_reducible refine IdB.wxR ?_ _) | (with_reducible refine IdB.drewR ?_))); done)); (focus omega); (focus (simp [go_sem]; done)); (focus (simp [go_sem]; done)); rintro ⟨n17, f17, z17, i17⟩)); (try ((with_reducible refine fr32_try (r := A1.heap.size + 1) (cs := rowB 32 fun _ => 0) F2' ?_ ?_ ?_ ?_ ?_); rotate_left; (focus ((repeat (first | (with_reducible assumption) | (with_reducible refine IdB.setsR ?_ _ _ _) | ((with_reducible refine IdB.new' ?_); (simp [go_sem]; done)) | (with_reducible refine IdB.allocR ?_ _) | (with_reducible refine IdB.wxR ?_ _) | (with_reducible refine IdB.drewR ?_))); done)); (focus omega); (focus (simp [go_sem]; done)); (focus (simp [go_sem]; done)); rintro ⟨n18, f18, z18, i18⟩)); have s2 : A1.heap.size ≤ w2.heap.size := F2.size; replace F2' := Lib.hid F2'; replace hy := Lib.hid hy)); (first | done | refine mixQH_mk (⟨_, kpF (SQ1.out _ (by repeat (first | (with_reducible exact F2) | (with_reducible exact Frm.refl _ _) | (with_reducible refine Frm.allocR ?_ _) | (with_reducible refine Frm.wxR ?_ _) | (with_reducible refine Frm.drewR ?_) | ((with_reducible refine Frm.setsNew ?_ ?_ _ _); rotate_left; (focus omega)))))⟩) ?_)))
                all_goals (try (first | (with_reducible refine wpForkK_fork ?_ ?_) | (with_reducible refine wpForkK_three ?_ ?_ ?_)))
                all_goals repeat (first | ((with_reducible refine wpForkK_look ?_); go_big_quiet_step (fail); (try (with_reducible refine wpQuiet_nil ?_))) | (with_reducible refine wpForkK_eff ?_) | ((with_reducible refine effH_F ?_ ?_); (focus rfl); go_simp) | ((with_reducible refine effH_T ?_ ?_); (focus rfl); (try dsimp only); go_wp2_with ((go_at_call 74; (with_reducible refine (HC.out _ (ex_trans kw1 (by (try show Ex _ _); repeat (first | (with_reducible exact ex_refl _) | (with_reducible assumption) | (with_reducible refine ex_drewL ?_) | (with_reducible refine ex_appR ?_ _) | (with_reducible refine ex_wx ?_ _) | (with_reducible refine ex_drew ?_) | (with_reducible refine ex_alloc ?_ _))))).mono ?_); rintro e w2 ⟨xa, xb, c1, rfl, F2', K2, hy⟩; have F2 : FrP p A1 w2 := (Frm.ex (by (try show Ex _ _); repeat (first | (with_reducible exact ex_refl _) | (with_reducible assumption) | (with_reducible refine ex_drewL ?_) | (with_reducible refine ex_appR ?_ _) | (with_reducible refine ex_wx ?_ _) | (with_reducible refine ex_drew ?_) | (with_reducible refine ex_alloc ?_ _)))).trans F2'; (try ((with_reducible refine fr32_try (r := A1.heap.size) (cs := rowB 32 fun _ => 0) F2' ?_ ?_ ?_ ?_ ?_); rotate_left; (focus ((repeat (first | (with_reducible assumption) | (with_reducible refine IdB.setsR ?_ _ _ _) | ((with_reducible refine IdB.new' ?_); (simp [go_sem]; done)) | (with_reducible refine IdB.allocR ?_ _) | (with_reducible refine IdB.wxR ?_ _) | (with_reducible refine IdB.drewR ?_))); done)); (focus omega); (focus (simp [go_sem]; done)); (focus (simp [go_sem]; done)); rintro ⟨n17, f17, z17, i17⟩)); (try ((with_reducible refine fr32_try (r := A1.heap.size + 1) (cs := rowB 32 fun _ => 0) F2' ?_ ?_ ?_ ?_ ?_); rotate_left; (focus ((repeat (first | (with_reducible assumption) | (with_reducible refine IdB.setsR ?_ _ _ _) | ((with_reducible refine IdB.new' ?_); (simp [go_sem]; done)) | (with_reducible refine IdB.allocR ?_ _) | (with_reducible refine IdB.wxR ?_ _) | (with_reducible refine IdB.drewR ?_))); done)); (focus omega); (focus (simp [go_sem]; done)); (focus (simp [go_sem]; done)); rintro ⟨n18, f18, z18, i18⟩)); have s2 : A1.heap.size ≤ w2.heap.size := F2.size; replace F2' := Lib.hid F2'; replace hy := Lib.hid hy)); (first | done | refine mixQH_mk (⟨_, kpF (SQ1.out _ (by repeat (first | (with_reducible exact F2) | (with_reducible exact Frm.refl _ _) | (with_reducible refine Frm.allocR ?_ _) | (with_reducible refine Frm.wxR ?_ _) | (with_reducible refine Frm.drewR ?_) | ((with_reducible refine Frm.setsNew ?_ ?_ _ _); rotate_left; (focus omega)))))⟩) ?_)))
                all_goals (try (first | (with_reducible refine wpForkK_fork ?_ ?_) | (with_reducible refine wpForkK_three ?_ ?_ ?_)))
                all_goals repeat (first | ((with_reducible refine wpForkK_look ?_); go_big_quiet_step (fail); (try (with_reducible refine wpQuiet_nil ?_))) | (with_reducible refine wpForkK_eff ?_) | ((with_reducible refine effH_F ?_ ?_); (focus rfl); go_simp) | ((with_reducible refine effH_T ?_ ?_); (focus rfl); (try dsimp only); go_wp2_with ((go_at_call 74; (with_reducible refine (HC.out _ (ex_trans kw1 (by (try show Ex _ _); repeat (first | (with_reducible exact ex_refl _) | (with_reducible assumption) | (with_reducible refine ex_drewL ?_) | (with_reducible refine ex_appR ?_ _) | (with_reducible refine ex_wx ?_ _) | (with_reducible refine ex_drew ?_) | (with_reducible refine ex_alloc ?_ _))))).mono ?_); rintro e w2 ⟨xa, xb, c1, rfl, F2', K2, hy⟩; have F2 : FrP p A1 w2 := (Frm.ex (by (try show Ex _ _); repeat (first | (with_reducible exact ex_refl _) | (with_reducible assumption) | (with_reducible refine ex_drewL ?_) | (with_reducible refine ex_appR ?_ _) | (with_reducible refine ex_wx ?_ _) | (with_reducible refine ex_drew ?_) | (with_reducible refine ex_alloc ?_ _)))).trans F2'; (try ((with_reducible refine fr32_try (r := A1.heap.size) (cs := rowB 32 fun _ => 0) F2' ?_ ?_ ?_ ?_ ?_); rotate_left; (focus ((repeat (first | (with_reducible assumption) | (with_reducible refine IdB.setsR ?_ _ _ _) | ((with_reducible refine IdB.new' ?_); (simp [go_sem]; done)) | (with_reducible refine IdB.allocR ?_ _) | (with_reducible refine IdB.wxR ?_ _) | (with_reducible refine IdB.drewR ?_))); done)); (focus omega); (focus (simp [go_sem]; done)); (focus (simp [go_sem]; done)); rintro ⟨n17, f17, z17, i17⟩)); (try ((with_reducible refine fr32_try (r := A1.heap.size + 1) (cs := rowB 32 fun _ => 0) F2' ?_ ?_ ?_ ?_ ?_); rotate_left; (focus ((repeat (first | (with_reducible assumption) | (with_reducible refine IdB.setsR ?_ _ _ _) | ((with_reducible refine IdB.new' ?_); (simp [go_sem]; done)) | (with_reducible refine IdB.allocR ?_ _) | (with_reducible refine IdB.wxR ?_ _) | (with_reducible refine IdB.drewR ?_))); done)); (focus omega); (focus (simp [go_sem]; done)); (focus (simp [go_sem]; done)); rintro ⟨n18, f18, z18, i18⟩)); have s2 : A1.heap.size ≤ w2.heap.size := F2.size; replace F2' := Lib.hid F2'; replace hy := Lib.hid hy)); (first | done | refine mixQH_mk (⟨_, kpF (SQ1.out _ (by repeat (first | (with_reducible exact F2) | (with_reducible exact Frm.refl _ _) | (with_reducible refine Frm.allocR ?_ _) | (with_reducible refine Frm.wxR ?_ _) | (with_reducible refine Frm.drewR ?_) | ((with_reducible refine Frm.setsNew ?_ ?_ _ _); rotate_left; (focus omega)))))⟩) ?_)))
                all_goals (with_reducible refine wpForkK_nil ?_)
                all_goals
                  exact midGd_mk rfl rfl rfl (by kernel_rfl) (by first | (simp [go_sem, n17, n18, z17, z18]; done) | (simp [go_sem, n17, z17]; done) | (simp [go_sem]; done)) (by first | (simp [go_sem, n17, n18, z17, z18]; done) | (simp [go_sem, n17, z17]; done) | (simp [go_sem]; done)) (by first | omega | (simp [go_sem]; done) | (simp [go_sem]; omega)) (by first | omega | (simp [go_sem]; done) | (simp [go_sem]; omega)) (by first | omega | (simp [go_sem]; done) | (simp [go_sem]; omega)) (by first | omega | (simp [go_sem]; done) | (simp [go_sem]; omega)) (by repeat (first | (with_reducible exact K2) | (with_reducible refine Cd.allocR ?_ _) | (with_reducible refine Cd.wxR ?_ _) | (with_reducible refine Cd.drewR ?_) | ((with_reducible refine Cd.setsR ?_ ?_ _ _); rotate_left; (focus ((repeat (first | (with_reducible assumption) | (with_reducible refine IdB.setsR ?_ _ _ _) | ((with_reducible refine IdB.new' ?_); (simp [go_sem]; done)) | (with_reducible refine IdB.allocR ?_ _) | (with_reducible refine IdB.wxR ?_ _) | (with_reducible refine IdB.drewR ?_))); done))))) (by repeat (first | (with_reducible exact F2) | (with_reducible exact Frm.refl _ _) | (with_reducible refine Frm.allocR ?_ _) | (with_reducible refine Frm.wxR ?_ _) | (with_reducible refine Frm.drewR ?_) | ((with_reducible refine Frm.setsNew ?_ ?_ _ _); rotate_left; (focus omega)))) hy.out
              rintro a0 W6 hmid
              obtain ⟨xa, xb, c1, b17, b18, g17, g18, g19, ha0, d17, d18, hs17, hs18, hz17, hz18, K6, F6, hy⟩ := hmid
              simp only [List.foldl] at ha0
              rw [g17, g18, g19] at ha0
              clear g17 g18 g19
              replace hy := Lib.hid hy
              generalize a0.tmps.getD 82 undef = u82 at ha0
              generalize a0.tmps.getD 83 undef = u83 at ha0
              generalize a0.tmps.getD 84 undef = u84 at ha0
              generalize a0.tmps.getD 85 undef = u85 at ha0
              generalize a0.tmps.getD 86 undef = u86 at ha0
              generalize a0.tmps.getD 87 undef = u87 at ha0
              generalize a0.tmps.getD 88 undef = u88 at ha0
              generalize a0.tmps.getD 89 undef = u89 at ha0
              generalize a0.tmps.getD 90 undef = u90 at ha0
              generalize a0.tmps.getD 91 undef = u91 at ha0
              generalize a0.tmps.getD 81 undef = u81 at ha0
              generalize a0.tmps.getD 92 undef = u92 at ha0
              generalize a0.tmps.getD 93 undef = u93 at ha0
              generalize a0.tmps.getD 94 undef = u94 at ha0
              subst ha0
              have hv36 := Lib.hid (hv3'.out _ F6)
              obtain ⟨nl, fl, zl⟩ := block_cellsF (n := 32) (row_frm hbl.out F6 npl) (by simp)
              have hz61 := Nat.lt_of_lt_of_le hz1 F6.size
              obtain ⟨P, hP⟩ : ∃ P : Nat → Prop, P = fun k => k = p ∨ k = r1 ∨ k = r2 := ⟨_, rfl⟩
              have hPr1 : P r1 := by rw [hP]; exact Or.inr (Or.inl rfl)
              have hPr2 : P r2 := by rw [hP]; exact Or.inr (Or.inr rfl)
              have hPl : ¬ P rl := by rw [hP]; rintro (e | e | e) <;> omega
              have hP17 : ¬ P b17 := by rw [hP]; rintro (e | e | e) <;> omega
              have hP18 : ¬ P b18 := by rw [hP]; rintro (e | e | e) <;> omega
              have SQ : Hid (∀ w5, FrP p W6 w5 → Frm P W6 w5) := Lib.hid fun w5 F => F.mono fun b e => by rw [hP]; exact Or.inl e
              have HE := Lib.hid (fun w5 c5 (F5 : FrP p W6 w5) (K5 : Cd w5 p c5) => k_endD2 le1 le2 n12 (row_frm hb1.out F6 np1) (row_frm hb2.out F6 np2) ((Frm.ex kw1 : FrP p w A1).trans F6) F5 K5 np1 np2)
              clear hP o0 fo0 zo0 hoP
              go_wp2
              have tok : True := trivial
              refine wp_region_forkH (fun w' => ∃ X, w' = kp W6 P X) (.look 0 (.look 1 (.look 2 (.look 3 (.look 5 (.look 6 (.look 8 (.eff 4 (.eff 7 (.eff 9 (.eff 10 (.look 11 .done)))))))))))) (⟨_, kp_of (fun _ _ _ => rfl)⟩) (by kernel_rfl) (by kernel_rfl) (fun _ _ d _ _ h => by cases d <;> exact h) ?_
              simp only [Fk.ops, nth]
              repeat (first | ((with_reducible refine wpForkH_look ?_); go_big_quiet_step (fail); (try (with_reducible refine wpQuiet_nil ?_))) | (with_reducible refine wpForkH_eff ?_) | ((with_reducible refine effH_F ?_ ?_); (focus rfl); go_simp) | ((with_reducible refine effH_T ?_ ?_); (focus rfl); (try dsimp only); go_wp2_with (first | (go_at_call 81; (with_reducible refine (H2.out _ _ _).mono ?_); rintro e w3 ⟨v4, rfl, hv4, X, rfl⟩; (try simp only [wx_wx, wx_drew] at hv4)) | (go_at_call 92; (with_reducible refine (HP.out xb y rT rD c1 _ _ _ (K6.ex (by (try show Ex _ _); repeat (first | (with_reducible exact ex_refl _) | (with_reducible assumption) | (with_reducible refine ex_drewL ?_) | (with_reducible refine ex_appR ?_ _) | (with_reducible refine ex_wx ?_ _) | (with_reducible refine ex_drew ?_) | (with_reducible refine ex_alloc ?_ _)))) (OwnU.ex hv4 (by (try show Ex _ _); repeat (first | (with_reducible exact ex_refl _) | (with_reducible assumption) | (with_reducible refine ex_drewL ?_) | (with_reducible refine ex_appR ?_ _) | (with_reducible refine ex_wx ?_ _) | (with_reducible refine ex_drew ?_) | (with_reducible refine ex_alloc ?_ _)))) (OwnU.ex hv36.out (by (try show Ex _ _); repeat (first | (with_reducible exact ex_refl _) | (with_reducible assumption) | (with_reducible refine ex_drewL ?_) | (with_reducible refine ex_appR ?_ _) | (with_reducible refine ex_wx ?_ _) | (with_reducible refine ex_drew ?_) | (with_reducible refine ex_alloc ?_ _))))).mono ?_); rintro e w5 ⟨rfl, F5', K5⟩; have F5 : FrP p W6 w5 := (Frm.ex (by (try show Ex _ _); repeat (first | (with_reducible exact ex_refl _) | (with_reducible assumption) | (with_reducible refine ex_drewL ?_) | (with_reducible refine ex_appR ?_ _) | (with_reducible refine ex_wx ?_ _) | (with_reducible refine ex_drew ?_) | (with_reducible refine ex_alloc ?_ _)))).trans F5'; obtain ⟨⟨n5, f5, z5⟩, ⟨n6, f6, z6⟩, HX⟩ := HE.out w5 _ F5 K5; replace HX := Lib.hid HX; replace F5' := Lib.hid F5')); (first | done | refine mixQH_mk (⟨_, kpF (by repeat (first | (with_reducible exact SQ.out _ F5) | (with_reducible exact Frm.refl _ _) | (with_reducible refine Frm.allocR ?_ _) | (with_reducible refine Frm.wxR ?_ _) | (with_reducible refine Frm.drewR ?_) | (with_reducible refine Frm.sets ?_ hPr1 _ _) | (with_reducible refine Frm.sets ?_ hPr2 _ _)))⟩) ?_)))
              all_goals (with_reducible refine wpForkH_nil ?_)
              go_wp2
              obtain ⟨x1, x2, x3, x4⟩ := HX.out xa (putC (sumW W) (twoL xb y) (twoL rT rD) c1).1
              refine ret_rowrowV (v := .bool o.isSome) Tryd.results74 Tryd.underlying46 rfl info_id rfl x1 rfl x2 rfl rfl ⟨_, _, (putC (sumW W) (twoL xb y) (twoL rT rD) c1).2, by rw [Option.isSome_map], x3, x4, fun u hu => ?_⟩
              obtain ⟨q, hq, rfl⟩ := Option.map_eq_some_iff.1 hu
              obtain rfl := hy.out q hq
              rfl
end Go.Proofs.YtcdocklbpfdmeaaDoor
