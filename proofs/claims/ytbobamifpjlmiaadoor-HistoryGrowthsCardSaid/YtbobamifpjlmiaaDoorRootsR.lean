/- Roots of the document. -/
import Derived.Test.YtbobamifpjlmiaaDoorGrow
import Derived.Test.YtbobamifpjlmiaaDoorTwo
set_option linter.unusedSimpArgs false
set_option linter.unusedVariables false
set_option maxRecDepth 20000
namespace Go.Proofs.YtbobamifpjlmiaaDoor
open Go.RowKit
/-- Both roots that the document tells; where there are none, whatever stands beside it. -/
def PostG (W : World) (o : Option (Dg × Dg)) (e : Ending) (w' : World) : Prop := ∃ y z, e = .returned (.tuple #[.agg (rowB 32 (dF y)), .agg (rowB 32 (dF z)), .bool o.isSome]) ∧ (∀ x, o = some x → y = x.1 ∧ z = x.2) ∧ ∃ X, w' = wx W X
abbrev wQ (w : World) (x : Dg) : World := ((w.alloc (.cells (rowB 32 (dF x)) 26)).alloc (.cells (rowB 32 fun _ => 0) 26)).alloc (.cells (rowB 32 fun _ => 0) 26)
set_option maxHeartbeats 4000000 in
theorem refroots_any (N : Nat) : ∀ (m : Nat) (old : Dg) (known : Bool) (p : List Dg) (a : Option Addr) (c : Nat) (w : World), 1 ≤ m → m ≤ N → N ≤ 1024 → p.length ≤ c → c ≤ maxLen → SlD w a p →
    Calls Tryd.prog 92 #[I m, I N, .agg (rowB 32 (dF old)), .bool known, .slice a p.length c] w (PostG w (rootsD m N old known p)) := by
  induction N using Nat.strongRecOn with
  | ind N ih =>
    intro m old known p a c w h1 hmN hN hc hcm hs
    unfold maxLen at hcm
    by_cases hmn : m = N
    · subst hmn
      rw [roots_all]
      clear ih
      cases known with
      | true =>
        rw [if_pos rfl]
        clear hs
        generalize p.length = L at hc ⊢
        have e1 : ((L : Int) == 0) = decide (L = 0) := by rw [Bool.eq_iff_iff]; simp
        have e2 : (L == 0) = decide (L = 0) := by rw [Bool.eq_iff_iff]; simp
        obtain ⟨o, ho⟩ : ∃ o, (if L = 0 then some (old, old) else none) = o := ⟨_, rfl⟩
        have HO1 : Hid (o.isSome = decide (L = 0)) := Lib.hid (by rw [← ho]; split <;> simp [*])
        have HO2 : Hid (∀ x, o = some x → old = x.1 ∧ old = x.2) := Lib.hid (by rw [← ho]; split <;> intro x hx <;> cases hx; exact ⟨rfl, rfl⟩)
        rw [ho]
        clear ho
        go_enter Tryd.func92, Tryd.ntmps92
        go_wp2
        refine wp_region_seqA (w.alloc (.cells (rowB 32 (dF old)) 26)) [(0, true), (1, true), (2, true), (3, true), (4, true), (5, false), (6, false), (7, true)] (by (try show Ex _ _); repeat (first | (with_reducible exact ex_refl _) | (with_reducible assumption) | (with_reducible refine ex_drewL ?_) | (with_reducible refine ex_appR ?_ _) | (with_reducible refine ex_wx ?_ _) | (with_reducible refine ex_drew ?_) | (with_reducible refine ex_alloc ?_ _))) (by kernel_rfl) (by kernel_rfl) (fun _ _ d _ _ h => by cases d <;> exact h) ?_
        simp only [List.map_cons, List.map_nil, nth]
        repeat (first | (refine wpSeq_look ?_; go_big_quiet_step (fail); refine wpQuiet_nil ?_) | (refine wpSeq_effF (by rfl) ?_; go_simp) | (refine wpSeq_eff (by rfl) ?_; (try dsimp only); go_wp2_with (fail); refine mixQ_mk (by (try show Ex _ _); repeat (first | (with_reducible exact ex_refl _) | (with_reducible assumption) | (with_reducible refine ex_drewL ?_) | (with_reducible refine ex_appR ?_ _) | (with_reducible refine ex_wx ?_ _) | (with_reducible refine ex_drew ?_) | (with_reducible refine ex_alloc ?_ _))) ?_))
        refine wpSeq_nil ?_
        go_wp2
        exact ret_row3 (cs := rowB 32 (dF old)) (cs2 := rowB 32 (dF old)) (v := .bool (decide (L = 0))) Tryd.results92 Tryd.underlying26 rfl info_id rfl (by simp [go_sem] <;> (intros; omega)) rfl (by simp [go_sem] <;> (intros; omega)) (by simp [e1, e2]) rfl ⟨old, old, (by rw [HO1.out]), HO2.out, (by (try show Ex _ _); repeat (first | (with_reducible exact ex_refl _) | (with_reducible assumption) | (with_reducible refine ex_drewL ?_) | (with_reducible refine ex_appR ?_ _) | (with_reducible refine ex_wx ?_ _) | (with_reducible refine ex_drew ?_) | (with_reducible refine ex_alloc ?_ _)))⟩
      | false =>
        rw [if_neg (by simp)]
        match p, hc, hs with
        | [], hc, hs =>
          clear hs
          go_enter Tryd.func92, Tryd.ntmps92
          go_wp2
          exact ret_row3 (cs := rowB 32 (fun _ => 0)) (cs2 := rowB 32 (fun _ => 0)) (v := .bool false) Tryd.results92 Tryd.underlying26 rfl info_id rfl (by simp [go_sem] <;> (intros; omega)) rfl (by simp [go_sem] <;> (intros; omega)) rfl rfl ⟨zeroD, zeroD, (by rw [row_zero]; rfl), (fun x hx => by cases hx), (by (try show Ex _ _); repeat (first | (with_reducible exact ex_refl _) | (with_reducible assumption) | (with_reducible refine ex_drewL ?_) | (with_reducible refine ex_appR ?_ _) | (with_reducible refine ex_wx ?_ _) | (with_reducible refine ex_drew ?_) | (with_reducible refine ex_alloc ?_ _)))⟩
        | [x], hc, hs =>
          obtain ⟨g, off, rfl, hg, hcell⟩ := hs.pos (by simp)
          have h0 := hcell 0 x rfl
          rw [Nat.zero_mul, Nat.add_zero] at h0
          rw [List.length_singleton] at hc ⊢
          clear hcell hs
          go_enter Tryd.func92, Tryd.ntmps92
          go_wp2
          refine wp_region_seqA (w) [(0, true), (1, true), (2, true), (3, true), (4, true), (5, true), (6, false), (7, false), (8, true)] (by (try show Ex _ _); repeat (first | (with_reducible exact ex_refl _) | (with_reducible assumption) | (with_reducible refine ex_drewL ?_) | (with_reducible refine ex_appR ?_ _) | (with_reducible refine ex_wx ?_ _) | (with_reducible refine ex_drew ?_) | (with_reducible refine ex_alloc ?_ _))) (by kernel_rfl) (by kernel_rfl) (fun _ _ d _ _ h => by cases d <;> exact h) ?_
          simp only [List.map_cons, List.map_nil, nth]
          repeat (first | (refine wpSeq_look ?_; go_big_quiet_step (fail); refine wpQuiet_nil ?_) | (refine wpSeq_effF (by rfl) ?_; go_simp) | (refine wpSeq_eff (by rfl) ?_; (try dsimp only); go_wp2_with (fail); refine mixQ_mk (by (try show Ex _ _); repeat (first | (with_reducible exact ex_refl _) | (with_reducible assumption) | (with_reducible refine ex_drewL ?_) | (with_reducible refine ex_appR ?_ _) | (with_reducible refine ex_wx ?_ _) | (with_reducible refine ex_drew ?_) | (with_reducible refine ex_alloc ?_ _))) ?_))
          refine wpSeq_nil ?_
          go_wp2
          exact ret_row3 (cs := rowB 32 (dF x)) (cs2 := rowB 32 (dF x)) (v := .bool true) Tryd.results92 Tryd.underlying26 rfl info_id rfl (by simp [go_sem] <;> (intros; omega)) rfl (by simp [go_sem] <;> (intros; omega)) rfl rfl ⟨x, x, rfl, (fun y hy => by have hz := Option.some.inj hy; rw [← hz]; exact ⟨rfl, rfl⟩), (by (try show Ex _ _); repeat (first | (with_reducible exact ex_refl _) | (with_reducible assumption) | (with_reducible refine ex_drewL ?_) | (with_reducible refine ex_appR ?_ _) | (with_reducible refine ex_wx ?_ _) | (with_reducible refine ex_drew ?_) | (with_reducible refine ex_alloc ?_ _)))⟩
        | x :: y :: r, hc, hs =>
          obtain ⟨L, hL⟩ : ∃ L, r.length = L := ⟨_, rfl⟩
          have hL2 : (x :: y :: r).length = L + 2 := by simp [hL]
          rw [hL2] at hc ⊢
          clear hs hL hL2
          have e1 : ((L : Int) + 2 == 1) = false := beq_eq_false_iff_ne.2 (by omega)
          have e2 : (L + 2 == 1) = false := beq_eq_false_iff_ne.2 (by omega)
          go_enter Tryd.func92, Tryd.ntmps92
          go_wp2
          exact ret_row3 (cs := rowB 32 (fun _ => 0)) (cs2 := rowB 32 (fun _ => 0)) (v := .bool false) Tryd.results92 Tryd.underlying26 rfl info_id rfl (by simp [go_sem] <;> (intros; omega)) rfl (by simp [go_sem] <;> (intros; omega)) rfl rfl ⟨zeroD, zeroD, (by rw [row_zero]; rfl), (fun x hx => by cases hx), (by (try show Ex _ _); repeat (first | (with_reducible exact ex_refl _) | (with_reducible assumption) | (with_reducible refine ex_drewL ?_) | (with_reducible refine ex_appR ?_ _) | (with_reducible refine ex_wx ?_ _) | (with_reducible refine ex_drew ?_) | (with_reducible refine ex_alloc ?_ _)))⟩
    · have hlt : m < N := by omega
      have e1 : ((m : Int) == N) = false := beq_eq_false_iff_ne.2 (by omega)
      have e1b : (m == N) = false := beq_eq_false_iff_ne.2 (by omega)
      rcases List.eq_nil_or_concat p with rfl | ⟨rest, last, rfl⟩
      · rw [roots_nil h1 hlt]
        clear ih hs
        rw [List.length_nil] at hc ⊢
        go_enter Tryd.func92, Tryd.ntmps92
        go_wp2
        exact ret_row3 (cs := rowB 32 (fun _ => 0)) (cs2 := rowB 32 (fun _ => 0)) (v := .bool false) Tryd.results92 Tryd.underlying26 rfl info_id rfl (by simp [go_sem] <;> (intros; omega)) rfl (by simp [go_sem] <;> (intros; omega)) rfl rfl ⟨zeroD, zeroD, (by rw [row_zero]; rfl), (fun x hx => by cases hx), (by (try show Ex _ _); repeat (first | (with_reducible exact ex_refl _) | (with_reducible assumption) | (with_reducible refine ex_drewL ?_) | (with_reducible refine ex_appR ?_ _) | (with_reducible refine ex_wx ?_ _) | (with_reducible refine ex_drew ?_) | (with_reducible refine ex_alloc ?_ _)))⟩
      · rw [List.concat_eq_append] at hc hs ⊢
        obtain ⟨g, off, rfl, hg, hcell⟩ := hs.pos (by simp)
        have hl := hcell rest.length last (by simp)
        have hsr : SlD w (some ⟨g, off, none⟩) rest := by
          have := hs.take rest.length
          rwa [List.take_left] at this
        have hN2 : 2 ≤ N := by omega
        have hk1 := split_lt hN2
        have hk2 := split_pos N
        have HSp := Lib.hid (show ∀ w, Calls Tryd.prog 29 #[I N] w (fun e w' => e = .returned (I (splitN N)) ∧ w = w') from fun w => by have := refSplit_any N w; rwa [SplitN_in hN2 hN] at this)
        have hlo := fun h => roots_lo h1 hlt h old last known rest
        have hhi := fun h => roots_hi h1 hlt h old last known rest
        obtain ⟨M, hM⟩ : ∃ M, rest.length = M := ⟨_, rfl⟩
        have hM2 : (rest ++ [last]).length = M + 1 := by simp [hM]
        rw [hM2] at hc ⊢
        rw [hM] at hl
        have hih := fun (n' m' : Nat) (kn : Bool) (h : n' < N) (h0 : 1 ≤ m') (h3 : m' ≤ n') (w' : World) (k : Ex w w') => ih n' h m' old kn rest (some ⟨g, off, none⟩) c w' h0 h3 (by omega) (by omega) (by unfold maxLen; omega) (hsr.ex k)
        rw [hM] at hih
        have e0 : ((M + 1 : Nat) : Int) ≤ c := by omega
        have e2 : (M : Int) ≤ c := by omega
        have e3 : (M : Int) < (M : Int) + 1 := by omega
        have e4 : ¬ ((M : Int) + 1 = 0) := by omega
        have e5 : (((M : Int) + 1) == 0) = false := beq_eq_false_iff_ne.2 (by omega)
        generalize splitN N = k at hk1 hk2 HSp hlo hhi
        clear hcell hs ih hsr hM hM2
        by_cases hik : k < m
        · rw [hhi hik]
          have j1 : ¬ (m : Int) ≤ k := by omega
          have j2 : (k : Int) ≤ m := by omega
          have j3 : (k : Int) ≤ N := by omega
          have HC : Hid (∀ w', Ex w w' → Calls Tryd.prog 92 #[I ((m : Int) - k), I ((N : Int) - k), .agg (rowB 32 (dF old)), .bool false, .slice (some ⟨g, off, none⟩) M c] w' (PostG w' (rootsD (m - k) (N - k) old false rest))) := Lib.hid fun w' kk => by
            have := hih (N - k) (m - k) false (by omega) (by omega) (by omega) w' kk
            rwa [show ((N - k : Nat) : Int) = (N : Int) - k by omega, show ((m - k : Nat) : Int) = (m : Int) - k by omega] at this
          clear hlo hhi hih
          generalize hcx : rootsD (m - k) (N - k) old false rest = o at HC ⊢
          clear hcx
          have HO : Hid (∀ w', Ex w w' → Calls Tryd.prog 92 #[I ((m : Int) - k), I ((N : Int) - k), .agg (rowB 32 (dF old)), .bool false, .slice (some ⟨g, off, none⟩) M c] w' (PostG w' o)) := HC
          clear HC
          cases o with
          | none =>
            go_enter Tryd.func92, Tryd.ntmps92
            go_wp2
            refine wp_region_two (wQ w old) [.look 0, .look 2, .look 3, .look 4, .look 5, .look 6, .look 7, .look 8, .look 9, .look 10, .look 11, .look 12, .two 1 13, .look 14, .eff 15, .look 16] (by (try show Ex _ _); repeat (first | (with_reducible exact ex_refl _) | (with_reducible assumption) | (with_reducible refine ex_drewL ?_) | (with_reducible refine ex_appR ?_ _) | (with_reducible refine ex_wx ?_ _) | (with_reducible refine ex_drew ?_) | (with_reducible refine ex_alloc ?_ _))) (by kernel_rfl) (by kernel_rfl) (fun _ _ d _ _ h => by cases d <;> exact h) ?_
            simp only [List.map_cons, List.map_nil, ixStp, nth]
            repeat (first | ((with_reducible refine wpTwo_look ?_); go_big_quiet_step (fail); (try (with_reducible refine wpQuiet_nil ?_))) | (with_reducible refine wpTwo_eff ?_) | ((with_reducible refine effT_F ?_ ?_); (focus rfl); go_simp) | ((with_reducible refine effT_T ?_ ?_); (focus rfl); (try dsimp only); go_wp2_with (go_at_call 29; refine (HSp.out _).mono ?_; rintro e w' ⟨rfl, rfl⟩); refine mixQ_mk (by (try show Ex _ _); repeat (first | (with_reducible exact ex_refl _) | (with_reducible assumption) | (with_reducible refine ex_drewL ?_) | (with_reducible refine ex_appR ?_ _) | (with_reducible refine ex_wx ?_ _) | (with_reducible refine ex_drew ?_) | (with_reducible refine ex_alloc ?_ _))) ?_))
            all_goals (with_reducible refine wpTwo_two ?_ ?_)
            all_goals repeat (first | ((with_reducible refine wpTwo_look ?_); go_big_quiet_step (fail); (try (with_reducible refine wpQuiet_nil ?_))) | (with_reducible refine wpTwo_eff ?_) | ((with_reducible refine effT_F ?_ ?_); (focus rfl); go_simp) | ((with_reducible refine effT_T ?_ ?_); (focus rfl); (try dsimp only); go_wp2_with (go_at_call 29; refine (HSp.out _).mono ?_; rintro e w' ⟨rfl, rfl⟩); refine mixQ_mk (by (try show Ex _ _); repeat (first | (with_reducible exact ex_refl _) | (with_reducible assumption) | (with_reducible refine ex_drewL ?_) | (with_reducible refine ex_appR ?_ _) | (with_reducible refine ex_wx ?_ _) | (with_reducible refine ex_drew ?_) | (with_reducible refine ex_alloc ?_ _))) ?_))
            all_goals (with_reducible refine wpTwo_nil ?_)
            all_goals (try simp only [wQ])
            all_goals go_wp2_with (go_at_call 92; (with_reducible refine (HO.out _ (by (try show Ex _ _); repeat (first | (with_reducible exact ex_refl _) | (with_reducible assumption) | (with_reducible refine ex_drewL ?_) | (with_reducible refine ex_appR ?_ _) | (with_reducible refine ex_wx ?_ _) | (with_reducible refine ex_drew ?_) | (with_reducible refine ex_alloc ?_ _)))).mono ?_); rintro e w2 ⟨y, z, rfl, hy, X5, rfl⟩)
            all_goals
              exact ret_row3 (cs := rowB 32 (fun _ => 0)) (cs2 := rowB 32 (fun _ => 0)) (v := .bool false) Tryd.results92 Tryd.underlying26 rfl info_id rfl (by simp [go_sem] <;> (intros; omega)) rfl (by simp [go_sem] <;> (intros; omega)) rfl rfl ⟨zeroD, zeroD, (by rw [row_zero]; rfl), (fun x hx => by cases hx), (by (try show Ex _ _); repeat (first | (with_reducible exact ex_refl _) | (with_reducible assumption) | (with_reducible refine ex_drewL ?_) | (with_reducible refine ex_appR ?_ _) | (with_reducible refine ex_wx ?_ _) | (with_reducible refine ex_drew ?_) | (with_reducible refine ex_alloc ?_ _)))⟩
          | some x =>
            have HN : Hid (∀ y w', Calls Tryd.prog 25 #[.agg (rowB 32 (dF last)), .agg (rowB 32 (dF y))] w' (Post w' (.agg (rowB 32 (dF (nodeD last y)))))) := Lib.hid fun y w' => refnode_any _ _ w'
            go_enter Tryd.func92, Tryd.ntmps92
            go_wp2
            refine wp_region_two (wQ w old) [.look 0, .look 2, .look 3, .look 4, .look 5, .look 6, .look 7, .look 8, .look 9, .look 10, .look 11, .look 12, .two 1 13, .look 14, .eff 15, .look 16] (by (try show Ex _ _); repeat (first | (with_reducible exact ex_refl _) | (with_reducible assumption) | (with_reducible refine ex_drewL ?_) | (with_reducible refine ex_appR ?_ _) | (with_reducible refine ex_wx ?_ _) | (with_reducible refine ex_drew ?_) | (with_reducible refine ex_alloc ?_ _))) (by kernel_rfl) (by kernel_rfl) (fun _ _ d _ _ h => by cases d <;> exact h) ?_
            simp only [List.map_cons, List.map_nil, ixStp, nth]
            repeat (first | ((with_reducible refine wpTwo_look ?_); go_big_quiet_step (fail); (try (with_reducible refine wpQuiet_nil ?_))) | (with_reducible refine wpTwo_eff ?_) | ((with_reducible refine effT_F ?_ ?_); (focus rfl); go_simp) | ((with_reducible refine effT_T ?_ ?_); (focus rfl); (try dsimp only); go_wp2_with (go_at_call 29; refine (HSp.out _).mono ?_; rintro e w' ⟨rfl, rfl⟩); refine mixQ_mk (by (try show Ex _ _); repeat (first | (with_reducible exact ex_refl _) | (with_reducible assumption) | (with_reducible refine ex_drewL ?_) | (with_reducible refine ex_appR ?_ _) | (with_reducible refine ex_wx ?_ _) | (with_reducible refine ex_drew ?_) | (with_reducible refine ex_alloc ?_ _))) ?_))
            all_goals (with_reducible refine wpTwo_two ?_ ?_)
            all_goals repeat (first | ((with_reducible refine wpTwo_look ?_); go_big_quiet_step (fail); (try (with_reducible refine wpQuiet_nil ?_))) | (with_reducible refine wpTwo_eff ?_) | ((with_reducible refine effT_F ?_ ?_); (focus rfl); go_simp) | ((with_reducible refine effT_T ?_ ?_); (focus rfl); (try dsimp only); go_wp2_with (go_at_call 29; refine (HSp.out _).mono ?_; rintro e w' ⟨rfl, rfl⟩); refine mixQ_mk (by (try show Ex _ _); repeat (first | (with_reducible exact ex_refl _) | (with_reducible assumption) | (with_reducible refine ex_drewL ?_) | (with_reducible refine ex_appR ?_ _) | (with_reducible refine ex_wx ?_ _) | (with_reducible refine ex_drew ?_) | (with_reducible refine ex_alloc ?_ _))) ?_))
            all_goals (with_reducible refine wpTwo_nil ?_)
            all_goals (try simp only [wQ])
            all_goals go_wp2_with (go_at_call 92; (with_reducible refine (HO.out _ (by (try show Ex _ _); repeat (first | (with_reducible exact ex_refl _) | (with_reducible assumption) | (with_reducible refine ex_drewL ?_) | (with_reducible refine ex_appR ?_ _) | (with_reducible refine ex_wx ?_ _) | (with_reducible refine ex_drew ?_) | (with_reducible refine ex_alloc ?_ _)))).mono ?_); rintro e w2 ⟨y, z, rfl, hy, X5, rfl⟩; obtain ⟨rfl, rfl⟩ := hy x rfl; clear hy)
            all_goals
              have q1 : w.heap.size < w.heap.size + 1 + 1 + 1 + 1 + X5.blocks.length + 1 := by omega
              have q2 : w.heap.size < w.heap.size + 1 + 1 + 1 + 1 + X5.blocks.length := by omega
              have q3 : w.heap.size < w.heap.size + 1 + 1 + 1 + X5.blocks.length + 1 := by omega
              have q4 : w.heap.size < w.heap.size + 1 + 1 + 1 + X5.blocks.length := by omega
              have q5 : w.heap.size < w.heap.size + 1 + 1 + X5.blocks.length + 1 := by omega
              have q6 : w.heap.size < w.heap.size + 1 + 1 + X5.blocks.length := by omega
              have q7 : w.heap.size < w.heap.size + 1 + 1 + 1 + 1 + X5.blocks.length + 1 + 1 := by omega
              have q8 : w.heap.size < w.heap.size + 1 + 1 + 1 + X5.blocks.length + 1 + 1 := by omega
              refine wp_region_mix [(0, true), (1, true), (3, true), (4, true), (2, false), (5, false)] 6 (by kernel_rfl) (by kernel_rfl) (fun _ _ d _ _ h => by cases d <;> exact h) ?_
              simp only [List.map_cons, List.map_nil, nth, List.drop_succ_cons, List.drop_zero]
              repeat (first | (refine wpMix_look ?_; go_big_quiet_step (fail); refine wpQuiet_nil ?_) | (refine wpMix_eff rfl (fun X1 => ?_); go_wp2_with (go_at_call 25; (with_reducible refine (HN.out _ _).mono ?_); rintro e w4 ⟨rfl, X6, rfl⟩); refine mixQ_mk (by first | exact ex_refl _ | exact ⟨_, rfl⟩ | exact ex_app _ _ _ | (simp only [wx_wx, wx_drew]; first | exact ex_refl _ | exact ex_app _ _ _ | exact ⟨_, rfl⟩) | (repeat (first | exact ex_refl _ | refine ex_drew ?_ | refine ex_alloc ?_ _ | refine ex_wx ?_ _))) ?_))
              refine wpMix_nil (fun X2 => ?_)
              go_wp2
            all_goals
              exact ret_row3 (cs := rowB 32 (dF (nodeD last x.1))) (cs2 := rowB 32 (dF (nodeD last x.2))) (v := .bool true) Tryd.results92 Tryd.underlying26 rfl info_id rfl (by simp [go_sem] <;> (intros; omega)) rfl (by simp [go_sem] <;> (intros; omega)) rfl rfl ⟨nodeD last x.1, nodeD last x.2, rfl, (fun y hy => by have hz := Option.some.inj hy; rw [← hz]; exact ⟨rfl, rfl⟩), (by (try show Ex _ _); repeat (first | (with_reducible exact ex_refl _) | (with_reducible assumption) | (with_reducible refine ex_drewL ?_) | (with_reducible refine ex_appR ?_ _) | (with_reducible refine ex_wx ?_ _) | (with_reducible refine ex_drew ?_) | (with_reducible refine ex_alloc ?_ _)))⟩
        · rw [hlo hik]
          have j1 : (m : Int) ≤ k := by omega
          have HC : Hid (∀ w', Ex w w' → Calls Tryd.prog 92 #[I m, I k, .agg (rowB 32 (dF old)), .bool known, .slice (some ⟨g, off, none⟩) M c] w' (PostG w' (rootsD m k old known rest))) := Lib.hid fun w' kk => hih k m known hk1 h1 (by omega) w' kk
          clear hlo hhi hih
          generalize hcx : rootsD m k old known rest = o at HC ⊢
          clear hcx
          have HO : Hid (∀ w', Ex w w' → Calls Tryd.prog 92 #[I m, I k, .agg (rowB 32 (dF old)), .bool known, .slice (some ⟨g, off, none⟩) M c] w' (PostG w' o)) := HC
          clear HC
          cases o with
          | none =>
            go_enter Tryd.func92, Tryd.ntmps92
            go_wp2
            refine wp_region_two (wQ w old) [.look 0, .look 2, .look 3, .look 4, .look 5, .look 6, .look 7, .look 8, .look 9, .look 10, .look 11, .look 12, .two 1 13, .look 14, .eff 15, .look 16] (by (try show Ex _ _); repeat (first | (with_reducible exact ex_refl _) | (with_reducible assumption) | (with_reducible refine ex_drewL ?_) | (with_reducible refine ex_appR ?_ _) | (with_reducible refine ex_wx ?_ _) | (with_reducible refine ex_drew ?_) | (with_reducible refine ex_alloc ?_ _))) (by kernel_rfl) (by kernel_rfl) (fun _ _ d _ _ h => by cases d <;> exact h) ?_
            simp only [List.map_cons, List.map_nil, ixStp, nth]
            repeat (first | ((with_reducible refine wpTwo_look ?_); go_big_quiet_step (fail); (try (with_reducible refine wpQuiet_nil ?_))) | (with_reducible refine wpTwo_eff ?_) | ((with_reducible refine effT_F ?_ ?_); (focus rfl); go_simp) | ((with_reducible refine effT_T ?_ ?_); (focus rfl); (try dsimp only); go_wp2_with (go_at_call 29; refine (HSp.out _).mono ?_; rintro e w' ⟨rfl, rfl⟩); refine mixQ_mk (by (try show Ex _ _); repeat (first | (with_reducible exact ex_refl _) | (with_reducible assumption) | (with_reducible refine ex_drewL ?_) | (with_reducible refine ex_appR ?_ _) | (with_reducible refine ex_wx ?_ _) | (with_reducible refine ex_drew ?_) | (with_reducible refine ex_alloc ?_ _))) ?_))
            all_goals (with_reducible refine wpTwo_two ?_ ?_)
            all_goals repeat (first | ((with_reducible refine wpTwo_look ?_); go_big_quiet_step (fail); (try (with_reducible refine wpQuiet_nil ?_))) | (with_reducible refine wpTwo_eff ?_) | ((with_reducible refine effT_F ?_ ?_); (focus rfl); go_simp) | ((with_reducible refine effT_T ?_ ?_); (focus rfl); (try dsimp only); go_wp2_with (go_at_call 29; refine (HSp.out _).mono ?_; rintro e w' ⟨rfl, rfl⟩); refine mixQ_mk (by (try show Ex _ _); repeat (first | (with_reducible exact ex_refl _) | (with_reducible assumption) | (with_reducible refine ex_drewL ?_) | (with_reducible refine ex_appR ?_ _) | (with_reducible refine ex_wx ?_ _) | (with_reducible refine ex_drew ?_) | (with_reducible refine ex_alloc ?_ _))) ?_))
            all_goals (with_reducible refine wpTwo_nil ?_)
            all_goals (try simp only [wQ])
            all_goals go_wp2_with (go_at_call 92; (with_reducible refine (HO.out _ (by (try show Ex _ _); repeat (first | (with_reducible exact ex_refl _) | (with_reducible assumption) | (with_reducible refine ex_drewL ?_) | (with_reducible refine ex_appR ?_ _) | (with_reducible refine ex_wx ?_ _) | (with_reducible refine ex_drew ?_) | (with_reducible refine ex_alloc ?_ _)))).mono ?_); rintro e w2 ⟨y, z, rfl, hy, X5, rfl⟩)
            all_goals
              exact ret_row3 (cs := rowB 32 (fun _ => 0)) (cs2 := rowB 32 (fun _ => 0)) (v := .bool false) Tryd.results92 Tryd.underlying26 rfl info_id rfl (by simp [go_sem] <;> (intros; omega)) rfl (by simp [go_sem] <;> (intros; omega)) rfl rfl ⟨zeroD, zeroD, (by rw [row_zero]; rfl), (fun x hx => by cases hx), (by (try show Ex _ _); repeat (first | (with_reducible exact ex_refl _) | (with_reducible assumption) | (with_reducible refine ex_drewL ?_) | (with_reducible refine ex_appR ?_ _) | (with_reducible refine ex_wx ?_ _) | (with_reducible refine ex_drew ?_) | (with_reducible refine ex_alloc ?_ _)))⟩
          | some x =>
            have HN : Hid (∀ y w', Calls Tryd.prog 25 #[.agg (rowB 32 (dF y)), .agg (rowB 32 (dF last))] w' (Post w' (.agg (rowB 32 (dF (nodeD y last)))))) := Lib.hid fun y w' => refnode_any _ _ w'
            go_enter Tryd.func92, Tryd.ntmps92
            go_wp2
            refine wp_region_two (wQ w old) [.look 0, .look 2, .look 3, .look 4, .look 5, .look 6, .look 7, .look 8, .look 9, .look 10, .look 11, .look 12, .two 1 13, .look 14, .eff 15, .look 16] (by (try show Ex _ _); repeat (first | (with_reducible exact ex_refl _) | (with_reducible assumption) | (with_reducible refine ex_drewL ?_) | (with_reducible refine ex_appR ?_ _) | (with_reducible refine ex_wx ?_ _) | (with_reducible refine ex_drew ?_) | (with_reducible refine ex_alloc ?_ _))) (by kernel_rfl) (by kernel_rfl) (fun _ _ d _ _ h => by cases d <;> exact h) ?_
            simp only [List.map_cons, List.map_nil, ixStp, nth]
            repeat (first | ((with_reducible refine wpTwo_look ?_); go_big_quiet_step (fail); (try (with_reducible refine wpQuiet_nil ?_))) | (with_reducible refine wpTwo_eff ?_) | ((with_reducible refine effT_F ?_ ?_); (focus rfl); go_simp) | ((with_reducible refine effT_T ?_ ?_); (focus rfl); (try dsimp only); go_wp2_with (go_at_call 29; refine (HSp.out _).mono ?_; rintro e w' ⟨rfl, rfl⟩); refine mixQ_mk (by (try show Ex _ _); repeat (first | (with_reducible exact ex_refl _) | (with_reducible assumption) | (with_reducible refine ex_drewL ?_) | (with_reducible refine ex_appR ?_ _) | (with_reducible refine ex_wx ?_ _) | (with_reducible refine ex_drew ?_) | (with_reducible refine ex_alloc ?_ _))) ?_))
            all_goals (with_reducible refine wpTwo_two ?_ ?_)
            all_goals repeat (first | ((with_reducible refine wpTwo_look ?_); go_big_quiet_step (fail); (try (with_reducible refine wpQuiet_nil ?_))) | (with_reducible refine wpTwo_eff ?_) | ((with_reducible refine effT_F ?_ ?_); (focus rfl); go_simp) | ((with_reducible refine effT_T ?_ ?_); (focus rfl); (try dsimp only); go_wp2_with (go_at_call 29; refine (HSp.out _).mono ?_; rintro e w' ⟨rfl, rfl⟩); refine mixQ_mk (by (try show Ex _ _); repeat (first | (with_reducible exact ex_refl _) | (with_reducible assumption) | (with_reducible refine ex_drewL ?_) | (with_reducible refine ex_appR ?_ _) | (with_reducible refine ex_wx ?_ _) | (with_reducible refine ex_drew ?_) | (with_reducible refine ex_alloc ?_ _))) ?_))
            all_goals (with_reducible refine wpTwo_nil ?_)
            all_goals (try simp only [wQ])
            all_goals go_wp2_with (go_at_call 92; (with_reducible refine (HO.out _ (by (try show Ex _ _); repeat (first | (with_reducible exact ex_refl _) | (with_reducible assumption) | (with_reducible refine ex_drewL ?_) | (with_reducible refine ex_appR ?_ _) | (with_reducible refine ex_wx ?_ _) | (with_reducible refine ex_drew ?_) | (with_reducible refine ex_alloc ?_ _)))).mono ?_); rintro e w2 ⟨y, z, rfl, hy, X5, rfl⟩; obtain ⟨rfl, rfl⟩ := hy x rfl; clear hy)
            all_goals
              have q1 : w.heap.size < w.heap.size + 1 + 1 + 1 + 1 + X5.blocks.length + 1 := by omega
              have q2 : w.heap.size < w.heap.size + 1 + 1 + 1 + 1 + X5.blocks.length := by omega
              have q3 : w.heap.size < w.heap.size + 1 + 1 + 1 + X5.blocks.length + 1 := by omega
              have q4 : w.heap.size < w.heap.size + 1 + 1 + 1 + X5.blocks.length := by omega
              have q5 : w.heap.size < w.heap.size + 1 + 1 + X5.blocks.length + 1 := by omega
              have q6 : w.heap.size < w.heap.size + 1 + 1 + X5.blocks.length := by omega
              have q7 : w.heap.size < w.heap.size + 1 + 1 + 1 + 1 + X5.blocks.length + 1 + 1 := by omega
              have q8 : w.heap.size < w.heap.size + 1 + 1 + 1 + X5.blocks.length + 1 + 1 := by omega
              refine wp_region_mix [(0, true), (1, true), (2, true), (3, false)] 4 (by kernel_rfl) (by kernel_rfl) (fun _ _ d _ _ h => by cases d <;> exact h) ?_
              simp only [List.map_cons, List.map_nil, nth, List.drop_succ_cons, List.drop_zero]
              repeat (first | (refine wpMix_look ?_; go_big_quiet_step (fail); refine wpQuiet_nil ?_) | (refine wpMix_eff rfl (fun X1 => ?_); go_wp2_with (go_at_call 25; (with_reducible refine (HN.out _ _).mono ?_); rintro e w4 ⟨rfl, X6, rfl⟩); refine mixQ_mk (by first | exact ex_refl _ | exact ⟨_, rfl⟩ | exact ex_app _ _ _ | (simp only [wx_wx, wx_drew]; first | exact ex_refl _ | exact ex_app _ _ _ | exact ⟨_, rfl⟩) | (repeat (first | exact ex_refl _ | refine ex_drew ?_ | refine ex_alloc ?_ _ | refine ex_wx ?_ _))) ?_))
              refine wpMix_nil (fun X2 => ?_)
              go_wp2
            all_goals
              exact ret_row3 (cs := rowB 32 (dF x.1)) (cs2 := rowB 32 (dF (nodeD x.2 last))) (v := .bool true) Tryd.results92 Tryd.underlying26 rfl info_id rfl (by simp [go_sem] <;> (intros; omega)) rfl (by simp [go_sem] <;> (intros; omega)) rfl rfl ⟨x.1, nodeD x.2 last, rfl, (fun y hy => by have hz := Option.some.inj hy; rw [← hz]; exact ⟨rfl, rfl⟩), (by (try show Ex _ _); repeat (first | (with_reducible exact ex_refl _) | (with_reducible assumption) | (with_reducible refine ex_drewL ?_) | (with_reducible refine ex_appR ?_ _) | (with_reducible refine ex_wx ?_ _) | (with_reducible refine ex_drew ?_) | (with_reducible refine ex_alloc ?_ _)))⟩
theorem refRoots_any (m n : Int) (old : Dg) (p : List Dg) (a : Option Addr) (c : Nat) (w : World) (hc : p.length ≤ c) (hcm : c ≤ maxLen) (hs : SlD w a p) :
    Calls Tryd.prog 60 #[I m, I n, .agg (rowB 32 (dF old)), .slice a p.length c] w (Post w (rootsV (RootsD m n old p))) := by
  by_cases hok : growOk m n = true
  · have hr : RootsD m n old p = rootsD m.toNat n.toNat old true p := if_pos hok
    rw [hr]
    unfold growOk at hok
    rw [decide_eq_true_eq] at hok
    obtain ⟨N, rfl⟩ : ∃ N : Nat, n = N := ⟨n.toNat, by omega⟩
    obtain ⟨M, rfl⟩ : ∃ M : Nat, m = M := ⟨m.toNat, by omega⟩
    rw [Int.toNat_natCast, Int.toNat_natCast]
    clear hr
    have HC : Hid (∀ w', Ex w w' → Calls Tryd.prog 92 #[I M, I N, .agg (rowB 32 (dF old)), .bool true, .slice a p.length c] w' (PostG w' (rootsD M N old true p))) := Lib.hid fun w' k => refroots_any N M old true p a c w' (by omega) (by omega) (by omega) hc hcm (hs.ex k)
    generalize rootsD M N old true p = o at HC ⊢
    generalize p.length = L at HC hc ⊢
    have t1 : decide ((N : Int) < 1) = false := decide_eq_false (by omega)
    have t2 : decide ((1024 : Int) < N) = false := decide_eq_false (by omega)
    have t3 : decide ((M : Int) < 1) = false := decide_eq_false (by omega)
    have t4 : decide ((N : Int) < M) = false := decide_eq_false (by omega)
    have t5 : decide (N < M) = false := decide_eq_false (by omega)
    have t6 : decide (N < 1) = false := decide_eq_false (by omega)
    have t7 : decide (M < 1) = false := decide_eq_false (by omega)
    clear hs
    have mixed : Tryd.prog.follows .mixedOrders = true := by kernel_rfl
    cases o with
    | none =>
      have HO : Hid (∀ w', Ex w w' → Calls Tryd.prog 92 #[I M, I N, .agg (rowB 32 (dF old)), .bool true, .slice a L c] w' (PostG w' none)) := HC
      clear HC
      go_enter Tryd.func60, Tryd.ntmps60
      go_wp2_with (go_at_call 92; refine (HO.out _ (by (try show Ex _ _); repeat (first | (with_reducible exact ex_refl _) | (with_reducible assumption) | (with_reducible refine ex_drewL ?_) | (with_reducible refine ex_appR ?_ _) | (with_reducible refine ex_wx ?_ _) | (with_reducible refine ex_drew ?_) | (with_reducible refine ex_alloc ?_ _)))).mono ?_; rintro e w2 ⟨y, z, rfl, hy, X, rfl⟩)
      exact ret_row3 (cs := rowB 32 fun _ => 0) (cs2 := rowB 32 fun _ => 0) (v := .bool false) Tryd.results60 Tryd.underlying26 rfl info_id rfl (by simp [go_sem]) rfl (by simp [go_sem]) rfl rfl (post_mk rfl (by (try show Ex _ _); repeat (first | (with_reducible exact ex_refl _) | (with_reducible assumption) | (with_reducible refine ex_drewL ?_) | (with_reducible refine ex_appR ?_ _) | (with_reducible refine ex_wx ?_ _) | (with_reducible refine ex_drew ?_) | (with_reducible refine ex_alloc ?_ _))))
    | some x =>
      have HO : Hid (∀ w', Ex w w' → Calls Tryd.prog 92 #[I M, I N, .agg (rowB 32 (dF old)), .bool true, .slice a L c] w' (PostG w' (some x))) := HC
      clear HC
      go_enter Tryd.func60, Tryd.ntmps60
      go_wp2_with (go_at_call 92; refine (HO.out _ (by (try show Ex _ _); repeat (first | (with_reducible exact ex_refl _) | (with_reducible assumption) | (with_reducible refine ex_drewL ?_) | (with_reducible refine ex_appR ?_ _) | (with_reducible refine ex_wx ?_ _) | (with_reducible refine ex_drew ?_) | (with_reducible refine ex_alloc ?_ _)))).mono ?_; rintro e w2 ⟨y, z, rfl, hy, X, rfl⟩; obtain ⟨rfl, rfl⟩ := hy x rfl; clear hy)
      go_big_region_o
      all_goals go_wp2
      all_goals exact ret_row3 (cs := rowB 32 (dF x.1)) (cs2 := rowB 32 (dF x.2)) (v := .bool true) Tryd.results60 Tryd.underlying26 rfl info_id rfl (by simp [go_sem]) rfl (by simp [go_sem]) rfl rfl (post_mk rfl (by (try show Ex _ _); repeat (first | (with_reducible exact ex_refl _) | (with_reducible assumption) | (with_reducible refine ex_drewL ?_) | (with_reducible refine ex_appR ?_ _) | (with_reducible refine ex_wx ?_ _) | (with_reducible refine ex_drew ?_) | (with_reducible refine ex_alloc ?_ _))))
  · have hr : RootsD m n old p = none := if_neg hok
    rw [hr]
    unfold growOk at hok
    have hw : n < 1 ∨ (1 ≤ n ∧ 1024 < n) ∨ (1 ≤ n ∧ n ≤ 1024 ∧ m < 1) ∨ (1 ≤ n ∧ n ≤ 1024 ∧ 1 ≤ m ∧ n < m) := by
      rw [decide_eq_true_eq] at hok; omega
    clear hok hr hs
    generalize p.length = L at hc ⊢
    rcases hw with hw | ⟨hw1, hw⟩ | ⟨hw1, hw2, hw⟩ | ⟨hw1, hw2, hw3, hw⟩
    all_goals
      go_enter Tryd.func60, Tryd.ntmps60
      go_wp2
      exact ret_row3 (cs := rowB 32 fun _ => 0) (cs2 := rowB 32 fun _ => 0) (v := .bool false) Tryd.results60 Tryd.underlying26 rfl info_id rfl (by simp [go_sem]) rfl (by simp [go_sem]) rfl rfl (post_mk rfl (by (try show Ex _ _); repeat (first | (with_reducible exact ex_refl _) | (with_reducible assumption) | (with_reducible refine ex_drewL ?_) | (with_reducible refine ex_appR ?_ _) | (with_reducible refine ex_wx ?_ _) | (with_reducible refine ex_drew ?_) | (with_reducible refine ex_alloc ?_ _))))
end Go.Proofs.YtbobamifpjlmiaaDoor
