/- Roots of both texts. -/
import Derived.Test.YtbobamifpjlmiaaDoorNode
import Derived.Test.YtbobamifpjlmiaaDoorBits
set_option linter.unusedSimpArgs false
set_option linter.unusedVariables false
set_option maxRecDepth 20000
namespace Go.Proofs.YtbobamifpjlmiaaDoor
open Go.RowKit
set_option maxHeartbeats 1000000 in
theorem root_any (N : Nat) : ∀ (l : List Dg) (a : Option Addr) (c : Nat) (w : World), l.length = N → N ≤ 1024 → N ≤ c → c ≤ maxLen → SlD w a l → Glob w →
    Calls Tryd.prog 63 #[.slice a N c] w (Post w (.agg (rowB 32 (dF (rootD l))))) := by
  induction N using Nat.strongRecOn with
  | ind N ih =>
    intro l a c w hl hN hc hcm hs G
    unfold maxLen at hcm
    rcases Nat.lt_or_ge N 2 with h2 | h2
    · have h01 : N = 0 ∨ N = 1 := by omega
      rcases h01 with rfl | rfl
      · obtain rfl := List.eq_nil_of_length_eq_zero hl
        rw [root_nil]
        go_enter Tryd.func63, Tryd.ntmps63
        go_wp2_with (go_at_call 66; refine (sum_slt G (by (try show Ex _ _); repeat (first | (with_reducible exact ex_refl _) | (with_reducible assumption) | (with_reducible refine ex_drewL ?_) | (with_reducible refine ex_appR ?_ _) | (with_reducible refine ex_wx ?_ _) | (with_reducible refine ex_drew ?_) | (with_reducible refine ex_alloc ?_ _))) (slt_nil _) (by simp)).mono ?_; rintro e w2 ⟨rfl, X, rfl⟩)
        exact ret_row (cs := rowB 32 (dF (sumD []))) Tryd.results63 Tryd.underlying26 rfl info_id rfl (by simp [go_sem]) rfl (post_mk rfl (by (try show Ex _ _); repeat (first | (with_reducible exact ex_refl _) | (with_reducible assumption) | (with_reducible refine ex_drewL ?_) | (with_reducible refine ex_appR ?_ _) | (with_reducible refine ex_wx ?_ _) | (with_reducible refine ex_drew ?_) | (with_reducible refine ex_alloc ?_ _))))
      · obtain ⟨x, rfl⟩ := List.length_eq_one_iff.1 hl
        rw [root_one]
        obtain ⟨g, off, rfl, hg, hcell⟩ := hs.pos (by simp)
        have h1 := hcell 0 x rfl
        clear hcell ih
        rw [Nat.zero_mul, Nat.add_zero] at h1
        go_enter Tryd.func63, Tryd.ntmps63
        go_wp2
        exact ret_row (cs := rowB 32 (dF x)) Tryd.results63 Tryd.underlying26 rfl info_id rfl (by simp [go_sem]) rfl (post_mk rfl (by (try show Ex _ _); repeat (first | (with_reducible exact ex_refl _) | (with_reducible assumption) | (with_reducible refine ex_drewL ?_) | (with_reducible refine ex_appR ?_ _) | (with_reducible refine ex_wx ?_ _) | (with_reducible refine ex_drew ?_) | (with_reducible refine ex_alloc ?_ _))))
    · have hk1 := split_lt (n := N) h2
      have hk2 := split_pos N
      have hr := root_two (l := l) (by omega)
      rw [hl] at hr
      rw [hr]
      clear hr
      obtain ⟨g, off, rfl, hg, hcell⟩ := hs.pos (by omega)
      clear hcell
      have HT : Hid (∀ w', Ex w w' → Calls Tryd.prog 63 #[.slice (some ⟨g, off, none⟩) (splitN N) c] w' (Post w' (.agg (rowB 32 (dF (rootD (l.take (splitN N)))))))) :=
        Lib.hid fun w' k => ih _ hk1 _ _ c w' (by rw [List.length_take]; omega) (by omega) (by omega) (by unfold maxLen; omega) ((hs.take _).ex k) (G.ex k)
      have HD : Hid (∀ w', Ex w w' → Calls Tryd.prog 63 #[.slice (some ⟨g, off + splitN N * 32, none⟩) (N - splitN N) (c - splitN N)] w' (Post w' (.agg (rowB 32 (dF (rootD (l.drop (splitN N)))))))) :=
        Lib.hid fun w' k => ih _ (by omega) _ _ _ w' (by rw [List.length_drop]; omega) (by omega) (by omega) (by unfold maxLen; omega) ((hs.drop _).ex k) (G.ex k)
      have HN : Hid (∀ w', Ex w w' → Calls Tryd.prog 24 #[.agg (rowB 32 (dF (rootD (l.take (splitN N))))), .agg (rowB 32 (dF (rootD (l.drop (splitN N)))))] w' (Post w' (.agg (rowB 32 (dF (nodeD (rootD (l.take (splitN N))) (rootD (l.drop (splitN N))))))))) :=
        Lib.hid fun w' k => node_any G _ _ w' k
      have HS := Lib.hid (split_any N h2 (by omega))
      generalize nodeD (rootD (l.take (splitN N))) (rootD (l.drop (splitN N))) = z at HN ⊢
      generalize rootD (l.take (splitN N)) = x at HT HN
      generalize rootD (l.drop (splitN N)) = y at HD HN
      generalize splitN N = k at hk1 hk2 HT HD HS
      have e0 : ((N : Int) == 0) = false := beq_eq_false_iff_ne.2 (by omega)
      have e1 : ((N : Int) == 1) = false := beq_eq_false_iff_ne.2 (by omega)
      have e2 : (k : Int) ≤ N := by omega
      have e3 : (k : Int) ≤ c := by omega
      have e4 : ¬ c = k := by omega
      have e5 : (N : Int) ≤ c := by omega
      clear ih hs hl h2 hN
      go_enter Tryd.func63, Tryd.ntmps63
      go_wp2_with (go_at_call 64; refine (HS.out _).mono ?_; rintro e w' ⟨rfl, rfl⟩)
      refine wp_region_mix [(0, true), (1, true), (2, true), (4, true), (5, true), (6, true), (3, false), (7, false), (8, false)] 9 (by kernel_rfl) (by kernel_rfl) (fun _ _ d _ _ h => by cases d <;> exact h) ?_
      simp only [List.map_cons, List.map_nil, nth, List.drop_succ_cons, List.drop_zero]
      repeat (first | (refine wpMix_look ?_; go_big_quiet_step (fail); refine wpQuiet_nil ?_) | (refine wpMix_eff rfl (fun X1 => ?_); go_wp2_with (first | (go_at_call 63; (with_reducible refine (HT.out _ (by (try show Ex _ _); repeat (first | (with_reducible exact ex_refl _) | (with_reducible assumption) | (with_reducible refine ex_drewL ?_) | (with_reducible refine ex_appR ?_ _) | (with_reducible refine ex_wx ?_ _) | (with_reducible refine ex_drew ?_) | (with_reducible refine ex_alloc ?_ _)))).mono ?_); rintro e w2 ⟨rfl, X, rfl⟩) | (go_at_call 63; (with_reducible refine (HD.out _ (by (try show Ex _ _); repeat (first | (with_reducible exact ex_refl _) | (with_reducible assumption) | (with_reducible refine ex_drewL ?_) | (with_reducible refine ex_appR ?_ _) | (with_reducible refine ex_wx ?_ _) | (with_reducible refine ex_drew ?_) | (with_reducible refine ex_alloc ?_ _)))).mono ?_); rintro e w2 ⟨rfl, X, rfl⟩) | (go_at_call 24; (with_reducible refine (HN.out _ (by (try show Ex _ _); repeat (first | (with_reducible exact ex_refl _) | (with_reducible assumption) | (with_reducible refine ex_drewL ?_) | (with_reducible refine ex_appR ?_ _) | (with_reducible refine ex_wx ?_ _) | (with_reducible refine ex_drew ?_) | (with_reducible refine ex_alloc ?_ _)))).mono ?_); rintro e w2 ⟨rfl, X, rfl⟩)); refine mixQ_mk (by first | exact ex_refl _ | exact ⟨_, rfl⟩ | exact ex_app _ _ _ | (simp only [wx_wx, wx_drew]; first | exact ex_refl _ | exact ex_app _ _ _ | exact ⟨_, rfl⟩) | (repeat (first | exact ex_refl _ | refine ex_drew ?_ | refine ex_alloc ?_ _ | refine ex_wx ?_ _))) ?_))
      refine wpMix_nil (fun X2 => ?_)
      go_wp2
      exact ret_row (cs := rowB 32 (dF z)) Tryd.results63 Tryd.underlying26 rfl info_id rfl (by simp [go_sem]) rfl (post_mk rfl (by (try show Ex _ _); repeat (first | (with_reducible exact ex_refl _) | (with_reducible assumption) | (with_reducible refine ex_drewL ?_) | (with_reducible refine ex_appR ?_ _) | (with_reducible refine ex_wx ?_ _) | (with_reducible refine ex_drew ?_) | (with_reducible refine ex_alloc ?_ _))))
set_option maxHeartbeats 1000000 in
theorem refroot_any (N : Nat) : ∀ (l : List Dg) (a : Option Addr) (c : Nat) (w : World), l.length = N → N ≤ 1024 → N ≤ c → c ≤ maxLen → SlD w a l →
    Calls Tryd.prog 20 #[.slice a N c] w (Post w (.agg (rowB 32 (dF (rootD l))))) := by
  induction N using Nat.strongRecOn with
  | ind N ih =>
    intro l a c w hl hN hc hcm hs
    unfold maxLen at hcm
    rcases Nat.lt_or_ge N 2 with h2 | h2
    · have h01 : N = 0 ∨ N = 1 := by omega
      rcases h01 with rfl | rfl
      · obtain rfl := List.eq_nil_of_length_eq_zero hl
        rw [root_nil]
        go_enter Tryd.func20, Tryd.ntmps20
        go_wp2_with (go_at_call 53; refine (refsum_slt (slt_nil _) (by simp)).mono ?_; rintro e w2 ⟨rfl, X, rfl⟩)
        exact ret_row (cs := rowB 32 (dF (sumD []))) Tryd.results20 Tryd.underlying26 rfl info_id rfl (by simp [go_sem]) rfl (post_mk rfl (by (try show Ex _ _); repeat (first | (with_reducible exact ex_refl _) | (with_reducible assumption) | (with_reducible refine ex_drewL ?_) | (with_reducible refine ex_appR ?_ _) | (with_reducible refine ex_wx ?_ _) | (with_reducible refine ex_drew ?_) | (with_reducible refine ex_alloc ?_ _))))
      · obtain ⟨x, rfl⟩ := List.length_eq_one_iff.1 hl
        rw [root_one]
        obtain ⟨g, off, rfl, hg, hcell⟩ := hs.pos (by simp)
        have h1 := hcell 0 x rfl
        clear hcell ih
        rw [Nat.zero_mul, Nat.add_zero] at h1
        go_enter Tryd.func20, Tryd.ntmps20
        go_wp2
        exact ret_row (cs := rowB 32 (dF x)) Tryd.results20 Tryd.underlying26 rfl info_id rfl (by simp [go_sem]) rfl (post_mk rfl (by (try show Ex _ _); repeat (first | (with_reducible exact ex_refl _) | (with_reducible assumption) | (with_reducible refine ex_drewL ?_) | (with_reducible refine ex_appR ?_ _) | (with_reducible refine ex_wx ?_ _) | (with_reducible refine ex_drew ?_) | (with_reducible refine ex_alloc ?_ _))))
    · have hk1 := split_lt (n := N) h2
      have hk2 := split_pos N
      have hr := root_two (l := l) (by omega)
      rw [hl] at hr
      rw [hr]
      clear hr
      obtain ⟨g, off, rfl, hg, hcell⟩ := hs.pos (by omega)
      clear hcell
      have HT : Hid (∀ w', Ex w w' → Calls Tryd.prog 20 #[.slice (some ⟨g, off, none⟩) (splitN N) c] w' (Post w' (.agg (rowB 32 (dF (rootD (l.take (splitN N)))))))) :=
        Lib.hid fun w' k => ih _ hk1 _ _ c w' (by rw [List.length_take]; omega) (by omega) (by omega) (by unfold maxLen; omega) ((hs.take _).ex k)
      have HD : Hid (∀ w', Ex w w' → Calls Tryd.prog 20 #[.slice (some ⟨g, off + splitN N * 32, none⟩) (N - splitN N) (c - splitN N)] w' (Post w' (.agg (rowB 32 (dF (rootD (l.drop (splitN N)))))))) :=
        Lib.hid fun w' k => ih _ (by omega) _ _ _ w' (by rw [List.length_drop]; omega) (by omega) (by omega) (by unfold maxLen; omega) ((hs.drop _).ex k)
      have HN : Hid (∀ w', Ex w w' → Calls Tryd.prog 25 #[.agg (rowB 32 (dF (rootD (l.take (splitN N))))), .agg (rowB 32 (dF (rootD (l.drop (splitN N)))))] w' (Post w' (.agg (rowB 32 (dF (nodeD (rootD (l.take (splitN N))) (rootD (l.drop (splitN N))))))))) :=
        Lib.hid fun w' k => refnode_any _ _ w'
      have HS := Lib.hid (show ∀ w, Calls Tryd.prog 29 #[I N] w (fun e w' => e = .returned (I (splitN N)) ∧ w = w') from fun w => by have := refSplit_any N w; rwa [SplitN_in h2 hN] at this)
      generalize nodeD (rootD (l.take (splitN N))) (rootD (l.drop (splitN N))) = z at HN ⊢
      generalize rootD (l.take (splitN N)) = x at HT HN
      generalize rootD (l.drop (splitN N)) = y at HD HN
      generalize splitN N = k at hk1 hk2 HT HD HS
      have e0 : ((N : Int) == 0) = false := beq_eq_false_iff_ne.2 (by omega)
      have e1 : ((N : Int) == 1) = false := beq_eq_false_iff_ne.2 (by omega)
      have e2 : (k : Int) ≤ N := by omega
      have e3 : (k : Int) ≤ c := by omega
      have e4 : ¬ c = k := by omega
      have e5 : (N : Int) ≤ c := by omega
      clear ih hs hl h2 hN
      go_enter Tryd.func20, Tryd.ntmps20
      go_wp2_with (go_at_call 29; refine (HS.out _).mono ?_; rintro e w' ⟨rfl, rfl⟩)
      refine wp_region_mix [(0, true), (1, true), (2, true), (4, true), (5, true), (6, true), (3, false), (7, false), (8, false)] 9 (by kernel_rfl) (by kernel_rfl) (fun _ _ d _ _ h => by cases d <;> exact h) ?_
      simp only [List.map_cons, List.map_nil, nth, List.drop_succ_cons, List.drop_zero]
      repeat (first | (refine wpMix_look ?_; go_big_quiet_step (fail); refine wpQuiet_nil ?_) | (refine wpMix_eff rfl (fun X1 => ?_); go_wp2_with (first | (go_at_call 20; (with_reducible refine (HT.out _ (by (try show Ex _ _); repeat (first | (with_reducible exact ex_refl _) | (with_reducible assumption) | (with_reducible refine ex_drewL ?_) | (with_reducible refine ex_appR ?_ _) | (with_reducible refine ex_wx ?_ _) | (with_reducible refine ex_drew ?_) | (with_reducible refine ex_alloc ?_ _)))).mono ?_); rintro e w2 ⟨rfl, X, rfl⟩) | (go_at_call 20; (with_reducible refine (HD.out _ (by (try show Ex _ _); repeat (first | (with_reducible exact ex_refl _) | (with_reducible assumption) | (with_reducible refine ex_drewL ?_) | (with_reducible refine ex_appR ?_ _) | (with_reducible refine ex_wx ?_ _) | (with_reducible refine ex_drew ?_) | (with_reducible refine ex_alloc ?_ _)))).mono ?_); rintro e w2 ⟨rfl, X, rfl⟩) | (go_at_call 25; (with_reducible refine (HN.out _ (by (try show Ex _ _); repeat (first | (with_reducible exact ex_refl _) | (with_reducible assumption) | (with_reducible refine ex_drewL ?_) | (with_reducible refine ex_appR ?_ _) | (with_reducible refine ex_wx ?_ _) | (with_reducible refine ex_drew ?_) | (with_reducible refine ex_alloc ?_ _)))).mono ?_); rintro e w2 ⟨rfl, X, rfl⟩)); refine mixQ_mk (by first | exact ex_refl _ | exact ⟨_, rfl⟩ | exact ex_app _ _ _ | (simp only [wx_wx, wx_drew]; first | exact ex_refl _ | exact ex_app _ _ _ | exact ⟨_, rfl⟩) | (repeat (first | exact ex_refl _ | refine ex_drew ?_ | refine ex_alloc ?_ _ | refine ex_wx ?_ _))) ?_))
      refine wpMix_nil (fun X2 => ?_)
      go_wp2
      exact ret_row (cs := rowB 32 (dF z)) Tryd.results20 Tryd.underlying26 rfl info_id rfl (by simp [go_sem]) rfl (post_mk rfl (by (try show Ex _ _); repeat (first | (with_reducible exact ex_refl _) | (with_reducible assumption) | (with_reducible refine ex_drewL ?_) | (with_reducible refine ex_appR ?_ _) | (with_reducible refine ex_wx ?_ _) | (with_reducible refine ex_drew ?_) | (with_reducible refine ex_alloc ?_ _))))
end Go.Proofs.YtbobamifpjlmiaaDoor
