/- Climb of the document. -/
import Derived.Test.YtbobamifpjlmiaaDoorIncl
import Derived.Test.YtbobamifpjlmiaaDoorTwo
set_option linter.unusedSimpArgs false
set_option linter.unusedVariables false
set_option maxRecDepth 20000
namespace Go.Proofs.YtbobamifpjlmiaaDoor
open Go.RowKit
/-- What the document climbs to; where it is nothing, whatever stands beside it. -/
def PostC (W : World) (o : Option Dg) (e : Ending) (w' : World) : Prop := ∃ y, e = .returned (.tuple #[.agg (rowB 32 (dF y)), .bool o.isSome]) ∧ (∀ x, o = some x → y = x) ∧ ∃ X, w' = wx W X
set_option maxHeartbeats 4000000 in
theorem refclimb_any (N : Nat) : ∀ (i : Nat) (leaf : Dg) (p : List Dg) (a : Option Addr) (c : Nat) (w : World), 1 ≤ N → N ≤ 1024 → i ≤ 1024 → p.length ≤ c → c ≤ maxLen → SlD w a p →
    Calls Tryd.prog 71 #[I N, I i, .agg (rowB 32 (dF leaf)), .slice a p.length c] w (PostC w (climbD N i leaf p)) := by
  induction N using Nat.strongRecOn with
  | ind N ih =>
    intro i leaf p a c w h1 hN hi hc hcm hs
    unfold maxLen at hcm
    by_cases h2 : 2 ≤ N
    · have e1 : ((N : Int) == 1) = false := beq_eq_false_iff_ne.2 (by omega)
      rcases List.eq_nil_or_concat p with rfl | ⟨rest, last, rfl⟩
      · rw [climb_nil h2]
        clear ih hs
        rw [List.length_nil] at hc ⊢
        go_enter Tryd.func71, Tryd.ntmps71
        go_wp2
        exact ret_rowV (cs := rowB 32 fun _ => 0) (v := .bool false) Tryd.results71 Tryd.underlying26 rfl info_id rfl (by simp [go_sem]) rfl rfl ⟨zeroD, by rw [row_zero]; rfl, fun x h => (by cases h), (by (try show Ex _ _); repeat (first | (with_reducible exact ex_refl _) | (with_reducible assumption) | (with_reducible refine ex_drewL ?_) | (with_reducible refine ex_appR ?_ _) | (with_reducible refine ex_wx ?_ _) | (with_reducible refine ex_drew ?_) | (with_reducible refine ex_alloc ?_ _)))⟩
      · rw [List.concat_eq_append] at hc hs ⊢
        obtain ⟨g, off, rfl, hg, hcell⟩ := hs.pos (by simp)
        have hl := hcell rest.length last (by simp)
        have hsr : SlD w (some ⟨g, off, none⟩) rest := by
          have := hs.take rest.length
          rwa [List.take_left] at this
        have hk1 := split_lt h2
        have hk2 := split_pos N
        have HSp := Lib.hid (show ∀ w, Calls Tryd.prog 29 #[I N] w (fun e w' => e = .returned (I (splitN N)) ∧ w = w') from fun w => by have := refSplit_any N w; rwa [SplitN_in h2 hN] at this)
        have hlo := fun h => climb_lo (n := N) (i := i) h2 h leaf last rest
        have hhi := fun h => climb_hi (n := N) (i := i) h2 h leaf last rest
        obtain ⟨M, hM⟩ : ∃ M, rest.length = M := ⟨_, rfl⟩
        have hM2 : (rest ++ [last]).length = M + 1 := by simp [hM]
        rw [hM2] at hc ⊢
        rw [hM] at hl
        have hih := fun (n' i' : Nat) (h : n' < N) (h0 : 1 ≤ n') (h3 : i' ≤ 1024) (w' : World) (k : Ex w w') => ih n' h i' leaf rest (some ⟨g, off, none⟩) c w' h0 (by omega) h3 (by omega) (by unfold maxLen; omega) (hsr.ex k)
        rw [hM] at hih
        have e0 : ((M + 1 : Nat) : Int) ≤ c := by omega
        have e2 : (M : Int) ≤ c := by omega
        have e3 : (M : Int) < (M : Int) + 1 := by omega
        have e4 : ¬ ((M : Int) + 1 = 0) := by omega
        have e5 : (((M : Int) + 1) == 0) = false := beq_eq_false_iff_ne.2 (by omega)
        generalize splitN N = k at hk1 hk2 HSp hlo hhi
        clear hcell hs ih hsr hM hM2
        by_cases hik : k ≤ i
        · rw [hhi hik]
          have j1 : ¬ (i : Int) < k := by omega
          have j2 : (k : Int) ≤ i := by omega
          have j3 : (k : Int) ≤ N := by omega
          have HC : Hid (∀ w', Ex w w' → Calls Tryd.prog 71 #[I ((N : Int) - k), I ((i : Int) - k), .agg (rowB 32 (dF leaf)), .slice (some ⟨g, off, none⟩) M c] w' (PostC w' (climbD (N - k) (i - k) leaf rest))) := Lib.hid fun w' kk => by
            have := hih (N - k) (i - k) (by omega) (by omega) (by omega) w' kk
            rwa [show ((N - k : Nat) : Int) = (N : Int) - k by omega, show ((i - k : Nat) : Int) = (i : Int) - k by omega] at this
          clear hlo hhi hih
          generalize hcx : climbD (N - k) (i - k) leaf rest = o at HC ⊢
          clear hcx
          have HO : Hid (∀ w', Ex w w' → Calls Tryd.prog 71 #[I ((N : Int) - k), I ((i : Int) - k), .agg (rowB 32 (dF leaf)), .slice (some ⟨g, off, none⟩) M c] w' (PostC w' o)) := HC
          clear HC
          cases o with
          | none =>
            go_enter Tryd.func71, Tryd.ntmps71
            go_wp2
            refine wp_region_two (wC w leaf) [.look 0, .look 2, .look 3, .look 4, .look 5, .look 6, .look 7, .look 8, .look 9, .look 10, .look 11, .look 12, .two 1 13, .look 14, .eff 15, .look 16] (by (try show Ex _ _); repeat (first | (with_reducible exact ex_refl _) | (with_reducible assumption) | (with_reducible refine ex_drewL ?_) | (with_reducible refine ex_appR ?_ _) | (with_reducible refine ex_wx ?_ _) | (with_reducible refine ex_drew ?_) | (with_reducible refine ex_alloc ?_ _))) (by kernel_rfl) (by kernel_rfl) (fun _ _ d _ _ h => by cases d <;> exact h) ?_
            simp only [List.map_cons, List.map_nil, ixStp, nth]
            repeat (first | ((with_reducible refine wpTwo_look ?_); go_big_quiet_step (fail); (try (with_reducible refine wpQuiet_nil ?_))) | (with_reducible refine wpTwo_eff ?_) | ((with_reducible refine effT_F ?_ ?_); (focus rfl); go_simp) | ((with_reducible refine effT_T ?_ ?_); (focus rfl); (try dsimp only); go_wp2_with (go_at_call 29; refine (HSp.out _).mono ?_; rintro e w' ⟨rfl, rfl⟩); refine mixQ_mk (by (try show Ex _ _); repeat (first | (with_reducible exact ex_refl _) | (with_reducible assumption) | (with_reducible refine ex_drewL ?_) | (with_reducible refine ex_appR ?_ _) | (with_reducible refine ex_wx ?_ _) | (with_reducible refine ex_drew ?_) | (with_reducible refine ex_alloc ?_ _))) ?_))
            all_goals (with_reducible refine wpTwo_two ?_ ?_)
            all_goals repeat (first | ((with_reducible refine wpTwo_look ?_); go_big_quiet_step (fail); (try (with_reducible refine wpQuiet_nil ?_))) | (with_reducible refine wpTwo_eff ?_) | ((with_reducible refine effT_F ?_ ?_); (focus rfl); go_simp) | ((with_reducible refine effT_T ?_ ?_); (focus rfl); (try dsimp only); go_wp2_with (go_at_call 29; refine (HSp.out _).mono ?_; rintro e w' ⟨rfl, rfl⟩); refine mixQ_mk (by (try show Ex _ _); repeat (first | (with_reducible exact ex_refl _) | (with_reducible assumption) | (with_reducible refine ex_drewL ?_) | (with_reducible refine ex_appR ?_ _) | (with_reducible refine ex_wx ?_ _) | (with_reducible refine ex_drew ?_) | (with_reducible refine ex_alloc ?_ _))) ?_))
            all_goals (with_reducible refine wpTwo_nil ?_)
            all_goals (try simp only [wC])
            all_goals go_wp2_with (go_at_call 71; (with_reducible refine (HO.out _ (by (try show Ex _ _); repeat (first | (with_reducible exact ex_refl _) | (with_reducible assumption) | (with_reducible refine ex_drewL ?_) | (with_reducible refine ex_appR ?_ _) | (with_reducible refine ex_wx ?_ _) | (with_reducible refine ex_drew ?_) | (with_reducible refine ex_alloc ?_ _)))).mono ?_); rintro e w2 ⟨y, rfl, hy, X5, rfl⟩)
            all_goals exact ret_rowV (cs := rowB 32 fun _ => 0) (v := .bool false) Tryd.results71 Tryd.underlying26 rfl info_id rfl (by simp [go_sem]) rfl rfl ⟨zeroD, by rw [row_zero]; rfl, fun x h => (by cases h), (by (try show Ex _ _); repeat (first | (with_reducible exact ex_refl _) | (with_reducible assumption) | (with_reducible refine ex_drewL ?_) | (with_reducible refine ex_appR ?_ _) | (with_reducible refine ex_wx ?_ _) | (with_reducible refine ex_drew ?_) | (with_reducible refine ex_alloc ?_ _)))⟩
          | some x =>
            have HN : Hid (∀ w', Calls Tryd.prog 25 #[.agg (rowB 32 (dF last)), .agg (rowB 32 (dF x))] w' (Post w' (.agg (rowB 32 (dF (nodeD last x)))))) := Lib.hid fun w' => refnode_any _ _ w'
            go_enter Tryd.func71, Tryd.ntmps71
            go_wp2
            refine wp_region_two (wC w leaf) [.look 0, .look 2, .look 3, .look 4, .look 5, .look 6, .look 7, .look 8, .look 9, .look 10, .look 11, .look 12, .two 1 13, .look 14, .eff 15, .look 16] (by (try show Ex _ _); repeat (first | (with_reducible exact ex_refl _) | (with_reducible assumption) | (with_reducible refine ex_drewL ?_) | (with_reducible refine ex_appR ?_ _) | (with_reducible refine ex_wx ?_ _) | (with_reducible refine ex_drew ?_) | (with_reducible refine ex_alloc ?_ _))) (by kernel_rfl) (by kernel_rfl) (fun _ _ d _ _ h => by cases d <;> exact h) ?_
            simp only [List.map_cons, List.map_nil, ixStp, nth]
            repeat (first | ((with_reducible refine wpTwo_look ?_); go_big_quiet_step (fail); (try (with_reducible refine wpQuiet_nil ?_))) | (with_reducible refine wpTwo_eff ?_) | ((with_reducible refine effT_F ?_ ?_); (focus rfl); go_simp) | ((with_reducible refine effT_T ?_ ?_); (focus rfl); (try dsimp only); go_wp2_with (go_at_call 29; refine (HSp.out _).mono ?_; rintro e w' ⟨rfl, rfl⟩); refine mixQ_mk (by (try show Ex _ _); repeat (first | (with_reducible exact ex_refl _) | (with_reducible assumption) | (with_reducible refine ex_drewL ?_) | (with_reducible refine ex_appR ?_ _) | (with_reducible refine ex_wx ?_ _) | (with_reducible refine ex_drew ?_) | (with_reducible refine ex_alloc ?_ _))) ?_))
            all_goals (with_reducible refine wpTwo_two ?_ ?_)
            all_goals repeat (first | ((with_reducible refine wpTwo_look ?_); go_big_quiet_step (fail); (try (with_reducible refine wpQuiet_nil ?_))) | (with_reducible refine wpTwo_eff ?_) | ((with_reducible refine effT_F ?_ ?_); (focus rfl); go_simp) | ((with_reducible refine effT_T ?_ ?_); (focus rfl); (try dsimp only); go_wp2_with (go_at_call 29; refine (HSp.out _).mono ?_; rintro e w' ⟨rfl, rfl⟩); refine mixQ_mk (by (try show Ex _ _); repeat (first | (with_reducible exact ex_refl _) | (with_reducible assumption) | (with_reducible refine ex_drewL ?_) | (with_reducible refine ex_appR ?_ _) | (with_reducible refine ex_wx ?_ _) | (with_reducible refine ex_drew ?_) | (with_reducible refine ex_alloc ?_ _))) ?_))
            all_goals (with_reducible refine wpTwo_nil ?_)
            all_goals (try simp only [wC])
            all_goals go_wp2_with (first | (go_at_call 71; (with_reducible refine (HO.out _ (by (try show Ex _ _); repeat (first | (with_reducible exact ex_refl _) | (with_reducible assumption) | (with_reducible refine ex_drewL ?_) | (with_reducible refine ex_appR ?_ _) | (with_reducible refine ex_wx ?_ _) | (with_reducible refine ex_drew ?_) | (with_reducible refine ex_alloc ?_ _)))).mono ?_); rintro e w2 ⟨y, rfl, hy, X5, rfl⟩; obtain rfl := hy x rfl) | (go_at_call 25; refine (HN.out _).mono ?_; rintro e w2 ⟨rfl, X6, rfl⟩))
            all_goals exact ret_rowV (cs := rowB 32 (dF (nodeD last y))) (v := .bool true) Tryd.results71 Tryd.underlying26 rfl info_id rfl (by simp [go_sem]) rfl rfl ⟨nodeD last y, rfl, fun x h => (by simpa using h), (by (try show Ex _ _); repeat (first | (with_reducible exact ex_refl _) | (with_reducible assumption) | (with_reducible refine ex_drewL ?_) | (with_reducible refine ex_appR ?_ _) | (with_reducible refine ex_wx ?_ _) | (with_reducible refine ex_drew ?_) | (with_reducible refine ex_alloc ?_ _)))⟩
        · rw [hlo hik]
          have j1 : (i : Int) < k := by omega
          have HC : Hid (∀ w', Ex w w' → Calls Tryd.prog 71 #[I k, I i, .agg (rowB 32 (dF leaf)), .slice (some ⟨g, off, none⟩) M c] w' (PostC w' (climbD k i leaf rest))) := Lib.hid fun w' kk => hih k i hk1 hk2 hi w' kk
          clear hlo hhi hih
          generalize hcx : climbD k i leaf rest = o at HC ⊢
          clear hcx
          have HO : Hid (∀ w', Ex w w' → Calls Tryd.prog 71 #[I k, I i, .agg (rowB 32 (dF leaf)), .slice (some ⟨g, off, none⟩) M c] w' (PostC w' o)) := HC
          clear HC
          cases o with
          | none =>
            go_enter Tryd.func71, Tryd.ntmps71
            go_wp2
            refine wp_region_two (wC w leaf) [.look 0, .look 2, .look 3, .look 4, .look 5, .look 6, .look 7, .look 8, .look 9, .look 10, .look 11, .look 12, .two 1 13, .look 14, .eff 15, .look 16] (by (try show Ex _ _); repeat (first | (with_reducible exact ex_refl _) | (with_reducible assumption) | (with_reducible refine ex_drewL ?_) | (with_reducible refine ex_appR ?_ _) | (with_reducible refine ex_wx ?_ _) | (with_reducible refine ex_drew ?_) | (with_reducible refine ex_alloc ?_ _))) (by kernel_rfl) (by kernel_rfl) (fun _ _ d _ _ h => by cases d <;> exact h) ?_
            simp only [List.map_cons, List.map_nil, ixStp, nth]
            repeat (first | ((with_reducible refine wpTwo_look ?_); go_big_quiet_step (fail); (try (with_reducible refine wpQuiet_nil ?_))) | (with_reducible refine wpTwo_eff ?_) | ((with_reducible refine effT_F ?_ ?_); (focus rfl); go_simp) | ((with_reducible refine effT_T ?_ ?_); (focus rfl); (try dsimp only); go_wp2_with (go_at_call 29; refine (HSp.out _).mono ?_; rintro e w' ⟨rfl, rfl⟩); refine mixQ_mk (by (try show Ex _ _); repeat (first | (with_reducible exact ex_refl _) | (with_reducible assumption) | (with_reducible refine ex_drewL ?_) | (with_reducible refine ex_appR ?_ _) | (with_reducible refine ex_wx ?_ _) | (with_reducible refine ex_drew ?_) | (with_reducible refine ex_alloc ?_ _))) ?_))
            all_goals (with_reducible refine wpTwo_two ?_ ?_)
            all_goals repeat (first | ((with_reducible refine wpTwo_look ?_); go_big_quiet_step (fail); (try (with_reducible refine wpQuiet_nil ?_))) | (with_reducible refine wpTwo_eff ?_) | ((with_reducible refine effT_F ?_ ?_); (focus rfl); go_simp) | ((with_reducible refine effT_T ?_ ?_); (focus rfl); (try dsimp only); go_wp2_with (go_at_call 29; refine (HSp.out _).mono ?_; rintro e w' ⟨rfl, rfl⟩); refine mixQ_mk (by (try show Ex _ _); repeat (first | (with_reducible exact ex_refl _) | (with_reducible assumption) | (with_reducible refine ex_drewL ?_) | (with_reducible refine ex_appR ?_ _) | (with_reducible refine ex_wx ?_ _) | (with_reducible refine ex_drew ?_) | (with_reducible refine ex_alloc ?_ _))) ?_))
            all_goals (with_reducible refine wpTwo_nil ?_)
            all_goals (try simp only [wC])
            all_goals go_wp2_with (go_at_call 71; (with_reducible refine (HO.out _ (by (try show Ex _ _); repeat (first | (with_reducible exact ex_refl _) | (with_reducible assumption) | (with_reducible refine ex_drewL ?_) | (with_reducible refine ex_appR ?_ _) | (with_reducible refine ex_wx ?_ _) | (with_reducible refine ex_drew ?_) | (with_reducible refine ex_alloc ?_ _)))).mono ?_); rintro e w2 ⟨y, rfl, hy, X5, rfl⟩)
            all_goals exact ret_rowV (cs := rowB 32 fun _ => 0) (v := .bool false) Tryd.results71 Tryd.underlying26 rfl info_id rfl (by simp [go_sem]) rfl rfl ⟨zeroD, by rw [row_zero]; rfl, fun x h => (by cases h), (by (try show Ex _ _); repeat (first | (with_reducible exact ex_refl _) | (with_reducible assumption) | (with_reducible refine ex_drewL ?_) | (with_reducible refine ex_appR ?_ _) | (with_reducible refine ex_wx ?_ _) | (with_reducible refine ex_drew ?_) | (with_reducible refine ex_alloc ?_ _)))⟩
          | some x =>
            have HN : Hid (∀ w', Calls Tryd.prog 25 #[.agg (rowB 32 (dF x)), .agg (rowB 32 (dF last))] w' (Post w' (.agg (rowB 32 (dF (nodeD x last)))))) := Lib.hid fun w' => refnode_any _ _ w'
            go_enter Tryd.func71, Tryd.ntmps71
            go_wp2
            refine wp_region_two (wC w leaf) [.look 0, .look 2, .look 3, .look 4, .look 5, .look 6, .look 7, .look 8, .look 9, .look 10, .look 11, .look 12, .two 1 13, .look 14, .eff 15, .look 16] (by (try show Ex _ _); repeat (first | (with_reducible exact ex_refl _) | (with_reducible assumption) | (with_reducible refine ex_drewL ?_) | (with_reducible refine ex_appR ?_ _) | (with_reducible refine ex_wx ?_ _) | (with_reducible refine ex_drew ?_) | (with_reducible refine ex_alloc ?_ _))) (by kernel_rfl) (by kernel_rfl) (fun _ _ d _ _ h => by cases d <;> exact h) ?_
            simp only [List.map_cons, List.map_nil, ixStp, nth]
            repeat (first | ((with_reducible refine wpTwo_look ?_); go_big_quiet_step (fail); (try (with_reducible refine wpQuiet_nil ?_))) | (with_reducible refine wpTwo_eff ?_) | ((with_reducible refine effT_F ?_ ?_); (focus rfl); go_simp) | ((with_reducible refine effT_T ?_ ?_); (focus rfl); (try dsimp only); go_wp2_with (go_at_call 29; refine (HSp.out _).mono ?_; rintro e w' ⟨rfl, rfl⟩); refine mixQ_mk (by (try show Ex _ _); repeat (first | (with_reducible exact ex_refl _) | (with_reducible assumption) | (with_reducible refine ex_drewL ?_) | (with_reducible refine ex_appR ?_ _) | (with_reducible refine ex_wx ?_ _) | (with_reducible refine ex_drew ?_) | (with_reducible refine ex_alloc ?_ _))) ?_))
            all_goals (with_reducible refine wpTwo_two ?_ ?_)
            all_goals repeat (first | ((with_reducible refine wpTwo_look ?_); go_big_quiet_step (fail); (try (with_reducible refine wpQuiet_nil ?_))) | (with_reducible refine wpTwo_eff ?_) | ((with_reducible refine effT_F ?_ ?_); (focus rfl); go_simp) | ((with_reducible refine effT_T ?_ ?_); (focus rfl); (try dsimp only); go_wp2_with (go_at_call 29; refine (HSp.out _).mono ?_; rintro e w' ⟨rfl, rfl⟩); refine mixQ_mk (by (try show Ex _ _); repeat (first | (with_reducible exact ex_refl _) | (with_reducible assumption) | (with_reducible refine ex_drewL ?_) | (with_reducible refine ex_appR ?_ _) | (with_reducible refine ex_wx ?_ _) | (with_reducible refine ex_drew ?_) | (with_reducible refine ex_alloc ?_ _))) ?_))
            all_goals (with_reducible refine wpTwo_nil ?_)
            all_goals (try simp only [wC])
            all_goals go_wp2_with (first | (go_at_call 71; (with_reducible refine (HO.out _ (by (try show Ex _ _); repeat (first | (with_reducible exact ex_refl _) | (with_reducible assumption) | (with_reducible refine ex_drewL ?_) | (with_reducible refine ex_appR ?_ _) | (with_reducible refine ex_wx ?_ _) | (with_reducible refine ex_drew ?_) | (with_reducible refine ex_alloc ?_ _)))).mono ?_); rintro e w2 ⟨y, rfl, hy, X5, rfl⟩; obtain rfl := hy x rfl) | (go_at_call 25; refine (HN.out _).mono ?_; rintro e w2 ⟨rfl, X6, rfl⟩))
            all_goals exact ret_rowV (cs := rowB 32 (dF (nodeD y last))) (v := .bool true) Tryd.results71 Tryd.underlying26 rfl info_id rfl (by simp [go_sem]) rfl rfl ⟨nodeD y last, rfl, fun x h => (by simpa using h), (by (try show Ex _ _); repeat (first | (with_reducible exact ex_refl _) | (with_reducible assumption) | (with_reducible refine ex_drewL ?_) | (with_reducible refine ex_appR ?_ _) | (with_reducible refine ex_wx ?_ _) | (with_reducible refine ex_drew ?_) | (with_reducible refine ex_alloc ?_ _)))⟩
    · obtain rfl : N = 1 := by omega
      rw [climb_one]
      clear ih hs
      generalize p.length = L at hc ⊢
      have e1 : ((L : Int) == 0) = decide (L = 0) := by
        rw [Bool.eq_iff_iff]; simp
      have e2 : (L == 0) = decide (L = 0) := by
        rw [Bool.eq_iff_iff]; simp
      simp only [Int.cast_ofNat_Int]
      go_enter Tryd.func71, Tryd.ntmps71
      go_wp2
      · exact ret_rowV (cs := rowB 32 (dF leaf)) (v := .bool true) Tryd.results71 Tryd.underlying26 rfl info_id rfl (by simp [go_sem]) rfl rfl ⟨leaf, rfl, fun x h => (by simpa using h), (by (try show Ex _ _); repeat (first | (with_reducible exact ex_refl _) | (with_reducible assumption) | (with_reducible refine ex_drewL ?_) | (with_reducible refine ex_appR ?_ _) | (with_reducible refine ex_wx ?_ _) | (with_reducible refine ex_drew ?_) | (with_reducible refine ex_alloc ?_ _)))⟩
      · exact ret_rowV (cs := rowB 32 (dF leaf)) (v := .bool false) Tryd.results71 Tryd.underlying26 rfl info_id rfl (by simp [go_sem]) rfl rfl ⟨leaf, rfl, fun x h => (by cases h), (by (try show Ex _ _); repeat (first | (with_reducible exact ex_refl _) | (with_reducible assumption) | (with_reducible refine ex_drewL ?_) | (with_reducible refine ex_appR ?_ _) | (with_reducible refine ex_wx ?_ _) | (with_reducible refine ex_drew ?_) | (with_reducible refine ex_alloc ?_ _)))⟩
theorem refClimb_any (n i : Int) (leaf : Dg) (p : List Dg) (a : Option Addr) (c : Nat) (w : World) (hc : p.length ≤ c) (hcm : c ≤ maxLen) (hs : SlD w a p) :
    Calls Tryd.prog 31 #[I n, I i, .agg (rowB 32 (dF leaf)), .slice a p.length c] w (PostC w (ClimbD n i leaf p)) := by
  by_cases hok : climbOk n i = true
  · have hr : ClimbD n i leaf p = climbD n.toNat i.toNat leaf p := if_pos hok
    rw [hr]
    unfold climbOk at hok
    rw [decide_eq_true_eq] at hok
    obtain ⟨N, rfl⟩ : ∃ N : Nat, n = N := ⟨n.toNat, by omega⟩
    obtain ⟨q, rfl⟩ : ∃ q : Nat, i = q := ⟨i.toNat, by omega⟩
    rw [Int.toNat_natCast, Int.toNat_natCast]
    clear hr
    have HC : Hid (∀ w', Ex w w' → Calls Tryd.prog 71 #[I N, I q, .agg (rowB 32 (dF leaf)), .slice a p.length c] w' (PostC w' (climbD N q leaf p))) := Lib.hid fun w' k => refclimb_any N q leaf p a c w' (by omega) (by omega) (by omega) hc hcm (hs.ex k)
    generalize climbD N q leaf p = o at HC ⊢
    generalize p.length = L at HC hc ⊢
    have t1 : decide ((N : Int) < 1) = false := decide_eq_false (by omega)
    have t2 : decide ((1024 : Int) < N) = false := decide_eq_false (by omega)
    have t3 : decide ((q : Int) < 0) = false := decide_eq_false (by omega)
    have t4 : decide ((N : Int) ≤ q) = false := decide_eq_false (by omega)
    have t5 : decide (N ≤ q) = false := decide_eq_false (by omega)
    have t6 : decide (N < 1) = false := decide_eq_false (by omega)
    clear hs
    go_enter Tryd.func31, Tryd.ntmps31
    go_wp2_with (go_at_call 71; refine (HC.out _ (by (try show Ex _ _); repeat (first | (with_reducible exact ex_refl _) | (with_reducible assumption) | (with_reducible refine ex_drewL ?_) | (with_reducible refine ex_appR ?_ _) | (with_reducible refine ex_wx ?_ _) | (with_reducible refine ex_drew ?_) | (with_reducible refine ex_alloc ?_ _)))).mono ?_; rintro e w2 ⟨y, rfl, hy, X, rfl⟩; have HY := Lib.hid hy; clear hy)
    exact ret_rowV (cs := rowB 32 (dF y)) (v := .bool o.isSome) Tryd.results31 Tryd.underlying26 rfl info_id rfl (by simp [go_sem]) rfl rfl ⟨y, rfl, HY.out, (by (try show Ex _ _); repeat (first | (with_reducible exact ex_refl _) | (with_reducible assumption) | (with_reducible refine ex_drewL ?_) | (with_reducible refine ex_appR ?_ _) | (with_reducible refine ex_wx ?_ _) | (with_reducible refine ex_drew ?_) | (with_reducible refine ex_alloc ?_ _)))⟩
  · have hr : ClimbD n i leaf p = none := if_neg hok
    rw [hr]
    unfold climbOk at hok
    have hw : n < 1 ∨ (1 ≤ n ∧ 1024 < n) ∨ (1 ≤ n ∧ n ≤ 1024 ∧ i < 0) ∨ (1 ≤ n ∧ n ≤ 1024 ∧ 0 ≤ i ∧ n ≤ i) := by
      rw [decide_eq_true_eq] at hok; omega
    clear hok hr hs
    generalize p.length = L at hc ⊢
    rcases hw with hw | ⟨hw1, hw⟩ | ⟨hw1, hw2, hw⟩ | ⟨hw1, hw2, hw3, hw⟩
    all_goals
      go_enter Tryd.func31, Tryd.ntmps31
      go_wp2
      exact ret_rowV (cs := rowB 32 fun _ => 0) (v := .bool false) Tryd.results31 Tryd.underlying26 rfl info_id rfl (by simp [go_sem]) rfl rfl ⟨zeroD, by rw [row_zero]; rfl, fun x h => (by cases h), (by (try show Ex _ _); repeat (first | (with_reducible exact ex_refl _) | (with_reducible assumption) | (with_reducible refine ex_drewL ?_) | (with_reducible refine ex_appR ?_ _) | (with_reducible refine ex_wx ?_ _) | (with_reducible refine ex_drew ?_) | (with_reducible refine ex_alloc ?_ _)))⟩
end Go.Proofs.YtbobamifpjlmiaaDoor
