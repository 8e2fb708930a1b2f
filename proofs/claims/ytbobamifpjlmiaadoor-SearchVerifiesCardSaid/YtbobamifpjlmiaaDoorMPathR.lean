import Derived.Test.YtbobamifpjlmiaaDoorMPath

/- Path, Proof of the document; Same. -/
set_option linter.unusedSimpArgs false
set_option linter.unusedVariables false
set_option maxRecDepth 20000
namespace Go.Proofs.YtbobamifpjlmiaaDoor
open Go.RowKit
theorem ownd_le {w : World} {Z Z' : Nat} {v : Value} {l : List Dg} (h : OwnD w Z v l) (hz : Z' ≤ Z) : OwnD w Z' v l := by
  refine ⟨h.1, ?_⟩
  rcases h.2 with h | ⟨g, cap, cur, h1, h2, h3⟩
  · exact Or.inl h
  · exact Or.inr ⟨g, cap, cur, h1, by omega, h3⟩
def PostZ (Z : Nat) (W : World) (l : List Dg) (e : Ending) (w' : World) : Prop := ∃ v, e = .returned v ∧ OwnD w' Z v l ∧ ∃ X, w' = wx W X
theorem postZ {W w : World} {l : List Dg} (k : Ex w W) (e : Ending) (w' : World) (h : PostO W l e w') : PostZ w.heap.size W l e w' := by
  obtain ⟨v, h1, h2, h3⟩ := h
  exact ⟨v, h1, ownd_le h2 (ex_size k), h3⟩
theorem path_len (N : Nat) : ∀ (l : List Dg) (i : Nat), l.length = N → (pathD l i).length ≤ l.length := by
  induction N using Nat.strongRecOn with
  | ind N ih =>
    intro l i hl
    by_cases h2 : 2 ≤ l.length
    · have h1 := split_lt h2
      have h3 := split_pos l.length
      by_cases hk : i < splitN l.length
      · rw [path_lo h2 hk]
        have := ih (splitN l.length) (by omega) (l.take (splitN l.length)) i (by rw [List.length_take, Nat.min_eq_left (by omega)])
        rw [List.length_take] at this
        simp; omega
      · rw [path_hi h2 hk]
        have := ih (l.length - splitN l.length) (by omega) (l.drop (splitN l.length)) (i - splitN l.length) (by rw [List.length_drop])
        rw [List.length_drop] at this
        simp; omega
    · rw [path_one (by omega)]; simp
theorem proof_len (N : Nat) : ∀ (l : List Dg) (m : Nat) (known : Bool), l.length = N → (proofD l m known).length ≤ l.length + 1 := by
  induction N using Nat.strongRecOn with
  | ind N ih =>
    intro l m known hl
    rw [proofD]
    split
    · cases known <;> simp
    · rename_i h
      have h1 := split_lt (n := l.length) (by omega)
      have h3 := split_pos l.length
      simp only
      split
      · have := ih (splitN l.length) (by omega) (l.take (splitN l.length)) m known (by rw [List.length_take, Nat.min_eq_left (by omega)])
        rw [List.length_take] at this
        simp; omega
      · have := ih (l.length - splitN l.length) (by omega) (l.drop (splitN l.length)) (m - splitN l.length) false (by rw [List.length_drop])
        rw [List.length_drop] at this
        simp; omega
set_option maxHeartbeats 2000000 in
theorem refpath_any (N : Nat) : ∀ (l : List Dg) (i : Nat) (a : Option Addr) (c : Nat) (w : World), l.length = N → N ≤ 1024 → N ≤ c → c ≤ maxLen → i ≤ 1024 → SlD w a l →
    Calls Tryd.prog 22 #[.slice a N c, I i] w (PostO w (pathD l i)) := by
  induction N using Nat.strongRecOn with
  | ind N ih =>
    intro l i a c w hl hN hc hcm hib hs
    unfold maxLen at hcm
    rcases Nat.lt_or_ge N 2 with h2 | h2
    · rw [path_one (by omega)]
      have j1 : (N : Int) < 2 := by omega
      go_enter Tryd.func22, Tryd.ntmps22
      go_wp2
      go_ret
      exact ⟨_, rfl, ownd_nil _ _, (by (try show Ex _ _); repeat (first | (with_reducible exact ex_refl _) | (with_reducible assumption) | (with_reducible refine ex_drewL ?_) | (with_reducible refine ex_appR ?_ _) | (with_reducible refine ex_wx ?_ _) | (with_reducible refine ex_drew ?_) | (with_reducible refine ex_alloc ?_ _)))⟩
    · have hk1 := split_lt (n := N) h2
      have hk2 := split_pos N
      obtain ⟨g, off, rfl, hg, hcell⟩ := hs.pos (by omega)
      clear hcell
      have HSp := Lib.hid (show ∀ w, Calls Tryd.prog 29 #[I N] w (fun e w' => e = .returned (I (splitN N)) ∧ w = w') from fun w => by have := refSplit_any N w; rwa [SplitN_in h2 hN] at this)
      have hlt : (l.take (splitN N)).length = splitN N := by rw [List.length_take]; omega
      have hld : (l.drop (splitN N)).length = N - splitN N := by rw [List.length_drop, hl]
      have j1 : ¬ (N : Int) < 2 := by omega
      have j2 : (splitN N : Int) ≤ N := by omega
      have j3 : (splitN N : Int) ≤ c := by omega
      have j4 : ¬ c = splitN N := by omega
      have j5 : (N : Int) ≤ c := by omega
      by_cases hik : i < splitN N
      · have hp := path_lo (l := l) (i := i) (by omega) (by rw [hl]; exact hik)
        rw [hl] at hp
        have hpl := path_len _ (l.take (splitN N)) i rfl
        have HP : Hid (∀ w', Ex w w' → Calls Tryd.prog 22 #[.slice (some ⟨g, off, none⟩) (splitN N) c, I i] w' (PostZ w.heap.size w' (pathD (l.take (splitN N)) i))) :=
          Lib.hid fun w' k => (ih _ hk1 _ i _ c w' hlt (by omega) (by omega) (by unfold maxLen; omega) (by omega) ((hs.take _).ex k)).mono (postZ k)
        have HRt : Hid (∀ w', Ex w w' → Calls Tryd.prog 20 #[.slice (some ⟨g, off + splitN N * 32, none⟩) (N - splitN N) (c - splitN N)] w' (Post w' (.agg (rowB 32 (dF (rootD (l.drop (splitN N)))))))) :=
          Lib.hid fun w' k => refroot_any _ _ _ _ w' hld (by omega) (by omega) (by unfold maxLen; omega) ((hs.drop _).ex k)
        have HP2 := Lib.hid hp
        clear hp hlt hld
        generalize rootD (l.drop (splitN N)) = z at HRt HP2
        generalize pathD (l.take (splitN N)) i = pt at HP HP2 hpl
        rw [List.length_take] at hpl
        generalize splitN N = k at hk1 hk2 HP HRt HSp hik j2 j3 j4
        have j6 : (i : Int) < k := by omega
        clear ih hs h2
        go_enter Tryd.func22, Tryd.ntmps22
        go_wp2_with (go_at_call 29; refine (HSp.out _).mono ?_; rintro e w' ⟨rfl, rfl⟩)
        refine wp_region_seqA (w) [(0, true), (1, true), (2, true), (3, true), (5, true), (6, true), (7, true), (4, false), (8, false), (9, false), (10, false), (11, true)] (by (try show Ex _ _); repeat (first | (with_reducible exact ex_refl _) | (with_reducible assumption) | (with_reducible refine ex_drewL ?_) | (with_reducible refine ex_appR ?_ _) | (with_reducible refine ex_wx ?_ _) | (with_reducible refine ex_drew ?_) | (with_reducible refine ex_alloc ?_ _))) (by kernel_rfl) (by kernel_rfl) (fun _ _ d _ _ h => by cases d <;> exact h) ?_
        simp only [List.map_cons, List.map_nil, nth]
        repeat (first | ((with_reducible refine wpSeq_look ?_); go_big_quiet_step (fail); (with_reducible refine wpQuiet_nil ?_)) | ((with_reducible refine wpSeq_effF ?_ ?_); (focus rfl); go_simp) | ((with_reducible refine wpSeq_eff ?_ ?_); (focus rfl); (try dsimp only); go_wp2_with (first | (go_at_call 22; (with_reducible refine (HP.out _ (by (try show Ex _ _); repeat (first | (with_reducible exact ex_refl _) | (with_reducible assumption) | (with_reducible refine ex_drewL ?_) | (with_reducible refine ex_appR ?_ _) | (with_reducible refine ex_wx ?_ _) | (with_reducible refine ex_drew ?_) | (with_reducible refine ex_alloc ?_ _)))).mono ?_); rintro e w2 ⟨v0, rfl, hown, X3, rfl⟩; (try simp only [wx_wx, wx_drew] at hown)) | (go_at_call 20; (with_reducible refine (HRt.out _ (by (try show Ex _ _); repeat (first | (with_reducible exact ex_refl _) | (with_reducible assumption) | (with_reducible refine ex_drewL ?_) | (with_reducible refine ex_appR ?_ _) | (with_reducible refine ex_wx ?_ _) | (with_reducible refine ex_drew ?_) | (with_reducible refine ex_alloc ?_ _)))).mono ?_); rintro e w2 ⟨rfl, X4, rfl⟩) | (at_builtin; refine wpAppD (r := [z]) _ _ rfl rfl (hown.ex (by (try show Ex _ _); repeat (first | (with_reducible exact ex_refl _) | (with_reducible assumption) | (with_reducible refine ex_drewL ?_) | (with_reducible refine ex_appR ?_ _) | (with_reducible refine ex_wx ?_ _) | (with_reducible refine ex_drew ?_) | (with_reducible refine ex_alloc ?_ _)))) rfl rfl rfl (sld_one z (by (try show Ex _ _); repeat (first | (with_reducible exact ex_refl _) | (with_reducible assumption) | (with_reducible refine ex_drewL ?_) | (with_reducible refine ex_appR ?_ _) | (with_reducible refine ex_wx ?_ _) | (with_reducible refine ex_drew ?_) | (with_reducible refine ex_alloc ?_ _))) (by simp [go_sem])) (by simp; omega) (by simp [go_sem] <;> omega) (fun v1 w1 hown1 hbe => ?_); obtain ⟨X1, rfl⟩ := exOf (A := w) (by (try show Ex _ _); repeat (first | (with_reducible exact ex_refl _) | (with_reducible assumption) | (with_reducible refine ex_drewL ?_) | (with_reducible refine ex_appR ?_ _) | (with_reducible refine ex_wx ?_ _) | (with_reducible refine ex_drew ?_) | (with_reducible refine ex_alloc ?_ _))) hbe)); refine mixQ_mk (by (try show Ex _ _); repeat (first | (with_reducible exact ex_refl _) | (with_reducible assumption) | (with_reducible refine ex_drewL ?_) | (with_reducible refine ex_appR ?_ _) | (with_reducible refine ex_wx ?_ _) | (with_reducible refine ex_drew ?_) | (with_reducible refine ex_alloc ?_ _))) ?_))
        refine wpSeq_nil ?_
        go_wp2
        go_ret
        rw [HP2.out]
        exact ⟨_, rfl, hown1, (by (try show Ex _ _); repeat (first | (with_reducible exact ex_refl _) | (with_reducible assumption) | (with_reducible refine ex_drewL ?_) | (with_reducible refine ex_appR ?_ _) | (with_reducible refine ex_wx ?_ _) | (with_reducible refine ex_drew ?_) | (with_reducible refine ex_alloc ?_ _)))⟩
      · have hp := path_hi (l := l) (i := i) (by omega) (by rw [hl]; exact hik)
        rw [hl] at hp
        have hpl := path_len _ (l.drop (splitN N)) (i - splitN N) rfl
        have HP : Hid (∀ w', Ex w w' → Calls Tryd.prog 22 #[.slice (some ⟨g, off + splitN N * 32, none⟩) (N - splitN N) (c - splitN N), I ((i : Int) - splitN N)] w' (PostZ w.heap.size w' (pathD (l.drop (splitN N)) (i - splitN N)))) :=
          Lib.hid fun w' k => by
            rw [show (i : Int) - splitN N = ((i - splitN N : Nat) : Int) by omega]
            exact (ih _ (by omega) _ _ _ _ w' hld (by omega) (by omega) (by unfold maxLen; omega) (by omega) ((hs.drop _).ex k)).mono (postZ k)
        have HRt : Hid (∀ w', Ex w w' → Calls Tryd.prog 20 #[.slice (some ⟨g, off, none⟩) (splitN N) c] w' (Post w' (.agg (rowB 32 (dF (rootD (l.take (splitN N)))))))) :=
          Lib.hid fun w' k => refroot_any _ _ _ _ w' hlt (by omega) (by omega) (by unfold maxLen; omega) ((hs.take _).ex k)
        have HP2 := Lib.hid hp
        clear hp hlt
        generalize rootD (l.take (splitN N)) = z at HRt HP2
        generalize pathD (l.drop (splitN N)) (i - splitN N) = pt at HP HP2 hpl
        rw [hld] at hpl
        clear hld
        generalize splitN N = k at hk1 hk2 HP HRt HSp hik j2 j3 j4 hpl
        have j6 : ¬ (i : Int) < k := by omega
        have j7 : (k : Int) ≤ i := by omega
        clear ih hs h2
        go_enter Tryd.func22, Tryd.ntmps22
        go_wp2_with (go_at_call 29; refine (HSp.out _).mono ?_; rintro e w' ⟨rfl, rfl⟩)
        refine wp_region_seqA (w) [(0, true), (1, true), (2, true), (3, true), (4, true), (5, true), (7, true), (8, true), (9, true), (6, false), (10, false), (11, false), (12, false), (13, true)] (by (try show Ex _ _); repeat (first | (with_reducible exact ex_refl _) | (with_reducible assumption) | (with_reducible refine ex_drewL ?_) | (with_reducible refine ex_appR ?_ _) | (with_reducible refine ex_wx ?_ _) | (with_reducible refine ex_drew ?_) | (with_reducible refine ex_alloc ?_ _))) (by kernel_rfl) (by kernel_rfl) (fun _ _ d _ _ h => by cases d <;> exact h) ?_
        simp only [List.map_cons, List.map_nil, nth]
        repeat (first | ((with_reducible refine wpSeq_look ?_); go_big_quiet_step (fail); (with_reducible refine wpQuiet_nil ?_)) | ((with_reducible refine wpSeq_effF ?_ ?_); (focus rfl); go_simp) | ((with_reducible refine wpSeq_eff ?_ ?_); (focus rfl); (try dsimp only); go_wp2_with (first | (go_at_call 22; (with_reducible refine (HP.out _ (by (try show Ex _ _); repeat (first | (with_reducible exact ex_refl _) | (with_reducible assumption) | (with_reducible refine ex_drewL ?_) | (with_reducible refine ex_appR ?_ _) | (with_reducible refine ex_wx ?_ _) | (with_reducible refine ex_drew ?_) | (with_reducible refine ex_alloc ?_ _)))).mono ?_); rintro e w2 ⟨v0, rfl, hown, X3, rfl⟩; (try simp only [wx_wx, wx_drew] at hown)) | (go_at_call 20; (with_reducible refine (HRt.out _ (by (try show Ex _ _); repeat (first | (with_reducible exact ex_refl _) | (with_reducible assumption) | (with_reducible refine ex_drewL ?_) | (with_reducible refine ex_appR ?_ _) | (with_reducible refine ex_wx ?_ _) | (with_reducible refine ex_drew ?_) | (with_reducible refine ex_alloc ?_ _)))).mono ?_); rintro e w2 ⟨rfl, X4, rfl⟩) | (at_builtin; refine wpAppD (r := [z]) _ _ rfl rfl (hown.ex (by (try show Ex _ _); repeat (first | (with_reducible exact ex_refl _) | (with_reducible assumption) | (with_reducible refine ex_drewL ?_) | (with_reducible refine ex_appR ?_ _) | (with_reducible refine ex_wx ?_ _) | (with_reducible refine ex_drew ?_) | (with_reducible refine ex_alloc ?_ _)))) rfl rfl rfl (sld_one z (by (try show Ex _ _); repeat (first | (with_reducible exact ex_refl _) | (with_reducible assumption) | (with_reducible refine ex_drewL ?_) | (with_reducible refine ex_appR ?_ _) | (with_reducible refine ex_wx ?_ _) | (with_reducible refine ex_drew ?_) | (with_reducible refine ex_alloc ?_ _))) (by simp [go_sem])) (by simp; omega) (by simp [go_sem] <;> omega) (fun v1 w1 hown1 hbe => ?_); obtain ⟨X1, rfl⟩ := exOf (A := w) (by (try show Ex _ _); repeat (first | (with_reducible exact ex_refl _) | (with_reducible assumption) | (with_reducible refine ex_drewL ?_) | (with_reducible refine ex_appR ?_ _) | (with_reducible refine ex_wx ?_ _) | (with_reducible refine ex_drew ?_) | (with_reducible refine ex_alloc ?_ _))) hbe)); refine mixQ_mk (by (try show Ex _ _); repeat (first | (with_reducible exact ex_refl _) | (with_reducible assumption) | (with_reducible refine ex_drewL ?_) | (with_reducible refine ex_appR ?_ _) | (with_reducible refine ex_wx ?_ _) | (with_reducible refine ex_drew ?_) | (with_reducible refine ex_alloc ?_ _))) ?_))
        refine wpSeq_nil ?_
        go_wp2
        go_ret
        rw [HP2.out]
        exact ⟨_, rfl, hown1, (by (try show Ex _ _); repeat (first | (with_reducible exact ex_refl _) | (with_reducible assumption) | (with_reducible refine ex_drewL ?_) | (with_reducible refine ex_appR ?_ _) | (with_reducible refine ex_wx ?_ _) | (with_reducible refine ex_drew ?_) | (with_reducible refine ex_alloc ?_ _)))⟩
/-- A slice of one digest, new. -/
theorem ownd_one {w w' : World} {Z : Nat} {v : Value} (d : Dg) (k : Ex (w.alloc (.cells (rowB 32 (dF d)) 26)) w') (hv : v = .slice (some ⟨w.heap.size, 0, none⟩) 1 1) (hZ : Z ≤ w.heap.size) : OwnD w' Z v [d] := by
  subst hv
  refine OwnD.ex (w := w.alloc (.cells (rowB 32 (dF d)) 26)) ?_ k
  exact owns_new (n := 1) (cap := 1) rfl hZ (by omega) (by decide) (by simp) (by simp only [List.flatMap_cons, List.flatMap_nil, List.append_nil, KD, Nat.one_mul]; rw [List.take_of_length_le (by simp)])
set_option maxHeartbeats 2000000 in
theorem refproof_any (N : Nat) : ∀ (l : List Dg) (m : Nat) (known : Bool) (a : Option Addr) (c : Nat) (w : World), l.length = N → N ≤ 1024 → N ≤ c → c ≤ maxLen → 1 ≤ m → m ≤ N → SlD w a l →
    Calls Tryd.prog 23 #[.slice a N c, I m, .bool known] w (PostO w (proofD l m known)) := by
  induction N using Nat.strongRecOn with
  | ind N ih =>
    intro l m known a c w hl hN hc hcm hm1 hm hs
    unfold maxLen at hcm
    by_cases h2 : m = N
    · subst h2
      have hp := proof_all l known
      rw [hl] at hp
      rw [hp]
      have HRt : Hid (∀ w', Ex w w' → Calls Tryd.prog 20 #[.slice a m c] w' (Post w' (.agg (rowB 32 (dF (rootD l)))))) :=
          Lib.hid fun w' k => refroot_any _ _ _ _ w' hl (by omega) (by omega) (by unfold maxLen; omega) (hs.ex k)
      generalize rootD l = z at HRt ⊢
      clear ih hs hl hp
      cases known
      · go_enter Tryd.func23, Tryd.ntmps23
        go_wp2_with (go_at_call 20; (with_reducible refine (HRt.out _ (by (try show Ex _ _); repeat (first | (with_reducible exact ex_refl _) | (with_reducible assumption) | (with_reducible refine ex_drewL ?_) | (with_reducible refine ex_appR ?_ _) | (with_reducible refine ex_wx ?_ _) | (with_reducible refine ex_drew ?_) | (with_reducible refine ex_alloc ?_ _)))).mono ?_); rintro e w2 ⟨rfl, X4, rfl⟩)
        go_ret
        exact ⟨_, rfl, ownd_one z (by (try show Ex _ _); repeat (first | (with_reducible exact ex_refl _) | (with_reducible assumption) | (with_reducible refine ex_drewL ?_) | (with_reducible refine ex_appR ?_ _) | (with_reducible refine ex_wx ?_ _) | (with_reducible refine ex_drew ?_) | (with_reducible refine ex_alloc ?_ _))) (by simp [go_sem]) (by simp [go_sem]), (by (try show Ex _ _); repeat (first | (with_reducible exact ex_refl _) | (with_reducible assumption) | (with_reducible refine ex_drewL ?_) | (with_reducible refine ex_appR ?_ _) | (with_reducible refine ex_wx ?_ _) | (with_reducible refine ex_drew ?_) | (with_reducible refine ex_alloc ?_ _)))⟩
      · go_enter Tryd.func23, Tryd.ntmps23
        go_wp2
        go_ret
        exact ⟨_, rfl, ownd_nil _ _, (by (try show Ex _ _); repeat (first | (with_reducible exact ex_refl _) | (with_reducible assumption) | (with_reducible refine ex_drewL ?_) | (with_reducible refine ex_appR ?_ _) | (with_reducible refine ex_wx ?_ _) | (with_reducible refine ex_drew ?_) | (with_reducible refine ex_alloc ?_ _)))⟩
    · have hk1 := split_lt (n := N) (by omega)
      have hk2 := split_pos N
      obtain ⟨g, off, rfl, hg, hcell⟩ := hs.pos (by omega)
      clear hcell
      have HSp := Lib.hid (show ∀ w, Calls Tryd.prog 29 #[I N] w (fun e w' => e = .returned (I (splitN N)) ∧ w = w') from fun w => by have := refSplit_any N w; rwa [SplitN_in (by omega) hN] at this)
      have hlt : (l.take (splitN N)).length = splitN N := by rw [List.length_take]; omega
      have hld : (l.drop (splitN N)).length = N - splitN N := by rw [List.length_drop, hl]
      have j1 : ((m : Int) == N) = false := beq_eq_false_iff_ne.2 (by omega)
      have j2 : (splitN N : Int) ≤ N := by omega
      have j3 : (splitN N : Int) ≤ c := by omega
      have j4 : ¬ c = splitN N := by omega
      have j5 : (N : Int) ≤ c := by omega
      by_cases hik : m ≤ splitN N
      · have hp := proof_lo (l := l) (m := m) hm1 (by omega) (by rw [hl]; exact hik) known
        rw [hl] at hp
        have hpl := proof_len _ (l.take (splitN N)) m known rfl
        have HP : Hid (∀ w', Ex w w' → Calls Tryd.prog 23 #[.slice (some ⟨g, off, none⟩) (splitN N) c, I m, .bool known] w' (PostZ w.heap.size w' (proofD (l.take (splitN N)) m known))) :=
          Lib.hid fun w' k => (ih _ hk1 _ m known _ c w' hlt (by omega) (by omega) (by unfold maxLen; omega) hm1 (by omega) ((hs.take _).ex k)).mono (postZ k)
        have HRt : Hid (∀ w', Ex w w' → Calls Tryd.prog 20 #[.slice (some ⟨g, off + splitN N * 32, none⟩) (N - splitN N) (c - splitN N)] w' (Post w' (.agg (rowB 32 (dF (rootD (l.drop (splitN N)))))))) :=
          Lib.hid fun w' k => refroot_any _ _ _ _ w' hld (by omega) (by omega) (by unfold maxLen; omega) ((hs.drop _).ex k)
        have HP2 := Lib.hid hp
        clear hp hlt hld
        generalize rootD (l.drop (splitN N)) = z at HRt HP2
        generalize proofD (l.take (splitN N)) m known = pt at HP HP2 hpl
        rw [List.length_take] at hpl
        generalize splitN N = k at hk1 hk2 HP HRt HSp hik j2 j3 j4
        have j6 : (m : Int) ≤ k := by omega
        clear ih hs h2
        go_enter Tryd.func23, Tryd.ntmps23
        go_wp2_with (go_at_call 29; refine (HSp.out _).mono ?_; rintro e w' ⟨rfl, rfl⟩)
        refine wp_region_seqA (w) [(0, true), (1, true), (2, true), (3, true), (4, true), (6, true), (7, true), (8, true), (5, false), (9, false), (10, false), (11, false), (12, true)] (by (try show Ex _ _); repeat (first | (with_reducible exact ex_refl _) | (with_reducible assumption) | (with_reducible refine ex_drewL ?_) | (with_reducible refine ex_appR ?_ _) | (with_reducible refine ex_wx ?_ _) | (with_reducible refine ex_drew ?_) | (with_reducible refine ex_alloc ?_ _))) (by kernel_rfl) (by kernel_rfl) (fun _ _ d _ _ h => by cases d <;> exact h) ?_
        simp only [List.map_cons, List.map_nil, nth]
        repeat (first | ((with_reducible refine wpSeq_look ?_); go_big_quiet_step (fail); (with_reducible refine wpQuiet_nil ?_)) | ((with_reducible refine wpSeq_effF ?_ ?_); (focus rfl); go_simp) | ((with_reducible refine wpSeq_eff ?_ ?_); (focus rfl); (try dsimp only); go_wp2_with (first | (go_at_call 23; (with_reducible refine (HP.out _ (by (try show Ex _ _); repeat (first | (with_reducible exact ex_refl _) | (with_reducible assumption) | (with_reducible refine ex_drewL ?_) | (with_reducible refine ex_appR ?_ _) | (with_reducible refine ex_wx ?_ _) | (with_reducible refine ex_drew ?_) | (with_reducible refine ex_alloc ?_ _)))).mono ?_); rintro e w2 ⟨v0, rfl, hown, X3, rfl⟩; (try simp only [wx_wx, wx_drew] at hown)) | (go_at_call 20; (with_reducible refine (HRt.out _ (by (try show Ex _ _); repeat (first | (with_reducible exact ex_refl _) | (with_reducible assumption) | (with_reducible refine ex_drewL ?_) | (with_reducible refine ex_appR ?_ _) | (with_reducible refine ex_wx ?_ _) | (with_reducible refine ex_drew ?_) | (with_reducible refine ex_alloc ?_ _)))).mono ?_); rintro e w2 ⟨rfl, X4, rfl⟩) | (at_builtin; refine wpAppD (r := [z]) _ _ rfl rfl (hown.ex (by (try show Ex _ _); repeat (first | (with_reducible exact ex_refl _) | (with_reducible assumption) | (with_reducible refine ex_drewL ?_) | (with_reducible refine ex_appR ?_ _) | (with_reducible refine ex_wx ?_ _) | (with_reducible refine ex_drew ?_) | (with_reducible refine ex_alloc ?_ _)))) rfl rfl rfl (sld_one z (by (try show Ex _ _); repeat (first | (with_reducible exact ex_refl _) | (with_reducible assumption) | (with_reducible refine ex_drewL ?_) | (with_reducible refine ex_appR ?_ _) | (with_reducible refine ex_wx ?_ _) | (with_reducible refine ex_drew ?_) | (with_reducible refine ex_alloc ?_ _))) (by simp [go_sem])) (by simp; omega) (by simp [go_sem] <;> omega) (fun v1 w1 hown1 hbe => ?_); obtain ⟨X1, rfl⟩ := exOf (A := w) (by (try show Ex _ _); repeat (first | (with_reducible exact ex_refl _) | (with_reducible assumption) | (with_reducible refine ex_drewL ?_) | (with_reducible refine ex_appR ?_ _) | (with_reducible refine ex_wx ?_ _) | (with_reducible refine ex_drew ?_) | (with_reducible refine ex_alloc ?_ _))) hbe)); refine mixQ_mk (by (try show Ex _ _); repeat (first | (with_reducible exact ex_refl _) | (with_reducible assumption) | (with_reducible refine ex_drewL ?_) | (with_reducible refine ex_appR ?_ _) | (with_reducible refine ex_wx ?_ _) | (with_reducible refine ex_drew ?_) | (with_reducible refine ex_alloc ?_ _))) ?_))
        refine wpSeq_nil ?_
        go_wp2
        go_ret
        rw [HP2.out]
        exact ⟨_, rfl, hown1, (by (try show Ex _ _); repeat (first | (with_reducible exact ex_refl _) | (with_reducible assumption) | (with_reducible refine ex_drewL ?_) | (with_reducible refine ex_appR ?_ _) | (with_reducible refine ex_wx ?_ _) | (with_reducible refine ex_drew ?_) | (with_reducible refine ex_alloc ?_ _)))⟩
      · have hp := proof_hi (l := l) (m := m) hm1 (by omega) (by rw [hl]; exact hik) known
        rw [hl] at hp
        have hpl := proof_len _ (l.drop (splitN N)) (m - splitN N) false rfl
        have HP : Hid (∀ w', Ex w w' → Calls Tryd.prog 23 #[.slice (some ⟨g, off + splitN N * 32, none⟩) (N - splitN N) (c - splitN N), I ((m : Int) - splitN N), .bool false] w' (PostZ w.heap.size w' (proofD (l.drop (splitN N)) (m - splitN N) false))) :=
          Lib.hid fun w' k => by
            rw [show (m : Int) - splitN N = ((m - splitN N : Nat) : Int) by omega]
            exact (ih _ (by omega) _ _ _ _ _ w' hld (by omega) (by omega) (by unfold maxLen; omega) (by omega) (by omega) ((hs.drop _).ex k)).mono (postZ k)
        have HRt : Hid (∀ w', Ex w w' → Calls Tryd.prog 20 #[.slice (some ⟨g, off, none⟩) (splitN N) c] w' (Post w' (.agg (rowB 32 (dF (rootD (l.take (splitN N)))))))) :=
          Lib.hid fun w' k => refroot_any _ _ _ _ w' hlt (by omega) (by omega) (by unfold maxLen; omega) ((hs.take _).ex k)
        have HP2 := Lib.hid hp
        clear hp hlt
        generalize rootD (l.take (splitN N)) = z at HRt HP2
        generalize proofD (l.drop (splitN N)) (m - splitN N) false = pt at HP HP2 hpl
        rw [hld] at hpl
        clear hld
        generalize splitN N = k at hk1 hk2 HP HRt HSp hik j2 j3 j4 hpl
        have j6 : ¬ (m : Int) ≤ k := by omega
        have j7 : (k : Int) ≤ m := by omega
        clear ih hs h2
        go_enter Tryd.func23, Tryd.ntmps23
        go_wp2_with (go_at_call 29; refine (HSp.out _).mono ?_; rintro e w' ⟨rfl, rfl⟩)
        refine wp_region_seqA (w) [(0, true), (1, true), (2, true), (3, true), (4, true), (5, true), (7, true), (8, true), (9, true), (6, false), (10, false), (11, false), (12, false), (13, true)] (by (try show Ex _ _); repeat (first | (with_reducible exact ex_refl _) | (with_reducible assumption) | (with_reducible refine ex_drewL ?_) | (with_reducible refine ex_appR ?_ _) | (with_reducible refine ex_wx ?_ _) | (with_reducible refine ex_drew ?_) | (with_reducible refine ex_alloc ?_ _))) (by kernel_rfl) (by kernel_rfl) (fun _ _ d _ _ h => by cases d <;> exact h) ?_
        simp only [List.map_cons, List.map_nil, nth]
        repeat (first | ((with_reducible refine wpSeq_look ?_); go_big_quiet_step (fail); (with_reducible refine wpQuiet_nil ?_)) | ((with_reducible refine wpSeq_effF ?_ ?_); (focus rfl); go_simp) | ((with_reducible refine wpSeq_eff ?_ ?_); (focus rfl); (try dsimp only); go_wp2_with (first | (go_at_call 23; (with_reducible refine (HP.out _ (by (try show Ex _ _); repeat (first | (with_reducible exact ex_refl _) | (with_reducible assumption) | (with_reducible refine ex_drewL ?_) | (with_reducible refine ex_appR ?_ _) | (with_reducible refine ex_wx ?_ _) | (with_reducible refine ex_drew ?_) | (with_reducible refine ex_alloc ?_ _)))).mono ?_); rintro e w2 ⟨v0, rfl, hown, X3, rfl⟩; (try simp only [wx_wx, wx_drew] at hown)) | (go_at_call 20; (with_reducible refine (HRt.out _ (by (try show Ex _ _); repeat (first | (with_reducible exact ex_refl _) | (with_reducible assumption) | (with_reducible refine ex_drewL ?_) | (with_reducible refine ex_appR ?_ _) | (with_reducible refine ex_wx ?_ _) | (with_reducible refine ex_drew ?_) | (with_reducible refine ex_alloc ?_ _)))).mono ?_); rintro e w2 ⟨rfl, X4, rfl⟩) | (at_builtin; refine wpAppD (r := [z]) _ _ rfl rfl (hown.ex (by (try show Ex _ _); repeat (first | (with_reducible exact ex_refl _) | (with_reducible assumption) | (with_reducible refine ex_drewL ?_) | (with_reducible refine ex_appR ?_ _) | (with_reducible refine ex_wx ?_ _) | (with_reducible refine ex_drew ?_) | (with_reducible refine ex_alloc ?_ _)))) rfl rfl rfl (sld_one z (by (try show Ex _ _); repeat (first | (with_reducible exact ex_refl _) | (with_reducible assumption) | (with_reducible refine ex_drewL ?_) | (with_reducible refine ex_appR ?_ _) | (with_reducible refine ex_wx ?_ _) | (with_reducible refine ex_drew ?_) | (with_reducible refine ex_alloc ?_ _))) (by simp [go_sem])) (by simp; omega) (by simp [go_sem] <;> omega) (fun v1 w1 hown1 hbe => ?_); obtain ⟨X1, rfl⟩ := exOf (A := w) (by (try show Ex _ _); repeat (first | (with_reducible exact ex_refl _) | (with_reducible assumption) | (with_reducible refine ex_drewL ?_) | (with_reducible refine ex_appR ?_ _) | (with_reducible refine ex_wx ?_ _) | (with_reducible refine ex_drew ?_) | (with_reducible refine ex_alloc ?_ _))) hbe)); refine mixQ_mk (by (try show Ex _ _); repeat (first | (with_reducible exact ex_refl _) | (with_reducible assumption) | (with_reducible refine ex_drewL ?_) | (with_reducible refine ex_appR ?_ _) | (with_reducible refine ex_wx ?_ _) | (with_reducible refine ex_drew ?_) | (with_reducible refine ex_alloc ?_ _))) ?_))
        refine wpSeq_nil ?_
        go_wp2
        go_ret
        rw [HP2.out]
        exact ⟨_, rfl, hown1, (by (try show Ex _ _); repeat (first | (with_reducible exact ex_refl _) | (with_reducible assumption) | (with_reducible refine ex_drewL ?_) | (with_reducible refine ex_appR ?_ _) | (with_reducible refine ex_wx ?_ _) | (with_reducible refine ex_drew ?_) | (with_reducible refine ex_alloc ?_ _)))⟩
/-- **Same.** -/
theorem same_any (l r : List Dg) (a b : Option Addr) (c c2 : Nat) (w : World) (hl : l.length ≤ c) (hc : c ≤ maxLen) (hr : r.length ≤ c2) (hc2 : c2 ≤ maxLen) (hs : SlD w a l) (ht : SlD w b r) :
    Calls Tryd.prog 21 #[.slice a l.length c, .slice b r.length c2] w (Post w (.bool (decide (l = r)))) := by
  unfold maxLen at hc hc2
  by_cases hn : l.length = r.length
  · have HN : Hid (l.length = r.length) := Lib.hid hn
    obtain ⟨n, hnl⟩ : ∃ n, l.length = n := ⟨_, rfl⟩
    obtain ⟨res, hres⟩ : ∃ res, decide (l = r) = res := ⟨_, rfl⟩
    have hnr : r.length = n := by omega
    have HL : Hid (l.length = n) := Lib.hid hnl
    have HR : Hid (r.length = n) := Lib.hid hnr
    have HRES : Hid (decide (l = r) = res) := Lib.hid hres
    rw [hnl] at hl ⊢
    rw [hnr] at hr ⊢
    rw [hres]
    clear hn hnl hnr hres
    go_enter Tryd.func21, Tryd.ntmps21
    go_wp2
    go_loopw [13] (fun i W => ∃ k : Nat, k ≤ n ∧ i = I k ∧ Hid (∀ j, j < k → l[j]? = r[j]?) ∧ Ex w W) (fun i _ => n - (intOf i).toNat)
    case atStart => exact ⟨0, by omega, rfl, Lib.hid (fun j hj => by omega), (by (try show Ex _ _); repeat (first | (with_reducible exact ex_refl _) | (with_reducible assumption) | (with_reducible refine ex_drewL ?_) | (with_reducible refine ex_appR ?_ _) | (with_reducible refine ex_wx ?_ _) | (with_reducible refine ex_drew ?_) | (with_reducible refine ex_alloc ?_ _)))⟩
    case round =>
      obtain ⟨k, hk, rfl, HK, X, rfl⟩ := hrel
      by_cases hlt : k < n
      · obtain ⟨g, off, rfl, hg, hcell⟩ := hs.pos (by rw [HL.out]; omega)
        obtain ⟨g2, off2, rfl, hg2, hcell2⟩ := ht.pos (by rw [HR.out]; omega)
        obtain ⟨x, hx⟩ : ∃ x, l[k]? = some x := ⟨_, List.getElem?_eq_getElem (by rw [HL.out]; omega)⟩
        obtain ⟨y, hy⟩ : ∃ y, r[k]? = some y := ⟨_, List.getElem?_eq_getElem (by rw [HR.out]; omega)⟩
        have h1 := hcell k x hx
        have h2 := hcell2 k y hy
        have HX := Lib.hid hx
        have HY := Lib.hid hy
        have he := eqD x y
        clear hcell hcell2 hx hy hs ht
        by_cases hxy : x = y
        · have HK2 : Hid (∀ j, j < k + 1 → l[j]? = r[j]?) := Lib.hid (fun j hj => by
            by_cases hjk : j < k
            · exact HK.out j hjk
            · obtain rfl : j = k := by omega
              rw [HX.out, HY.out, hxy])
          rw [decide_eq_true hxy] at he
          clear hxy
          go_wp2
          refine wp_region_seq [(0, true), (1, true), (2, true), (3, true), (4, true), (5, true), (6, true), (7, true), (8, true)] (by kernel_rfl) (by kernel_rfl) (fun _ _ d _ _ h => by cases d <;> exact h) ?_
          simp only [List.map_cons, List.map_nil, nth]
          repeat (first | ((with_reducible refine wpSeq_look ?_); go_big_quiet_step (fail); (with_reducible refine wpQuiet_nil ?_)) | ((with_reducible refine wpSeq_effF ?_ ?_); (focus rfl); go_simp) | ((with_reducible refine wpSeq_eff ?_ ?_); (focus rfl); (try dsimp only); go_wp2_with (fail); refine mixQ_mk (by (try show Ex _ _); repeat (first | (with_reducible exact ex_refl _) | (with_reducible assumption) | (with_reducible refine ex_drewL ?_) | (with_reducible refine ex_appR ?_ _) | (with_reducible refine ex_wx ?_ _) | (with_reducible refine ex_drew ?_) | (with_reducible refine ex_alloc ?_ _))) ?_))
          refine wpSeq_nil ?_
          go_wp2
          exact ⟨⟨k + 1, by omega, by go_num, HK2, (by (try show Ex _ _); repeat (first | (with_reducible exact ex_refl _) | (with_reducible assumption) | (with_reducible refine ex_drewL ?_) | (with_reducible refine ex_appR ?_ _) | (with_reducible refine ex_wx ?_ _) | (with_reducible refine ex_drew ?_) | (with_reducible refine ex_alloc ?_ _)))⟩, by simp [intOf]; omega⟩
        · have hne : ¬ l = r := fun h => hxy (by
            have := HX.out
            rw [h, HY.out] at this
            exact (Option.some.inj this).symm)
          have hres := HRES.out
          rw [decide_eq_false hne] at hres
          subst hres
          rw [decide_eq_false hxy] at he
          clear hxy hne
          go_wp2
          refine wp_region_seq [(0, true), (1, true), (2, true), (3, true), (4, true), (5, true), (6, true), (7, true), (8, true)] (by kernel_rfl) (by kernel_rfl) (fun _ _ d _ _ h => by cases d <;> exact h) ?_
          simp only [List.map_cons, List.map_nil, nth]
          repeat (first | ((with_reducible refine wpSeq_look ?_); go_big_quiet_step (fail); (with_reducible refine wpQuiet_nil ?_)) | ((with_reducible refine wpSeq_effF ?_ ?_); (focus rfl); go_simp) | ((with_reducible refine wpSeq_eff ?_ ?_); (focus rfl); (try dsimp only); go_wp2_with (fail); refine mixQ_mk (by (try show Ex _ _); repeat (first | (with_reducible exact ex_refl _) | (with_reducible assumption) | (with_reducible refine ex_drewL ?_) | (with_reducible refine ex_appR ?_ _) | (with_reducible refine ex_wx ?_ _) | (with_reducible refine ex_drew ?_) | (with_reducible refine ex_alloc ?_ _))) ?_))
          refine wpSeq_nil ?_
          go_wp2
          go_ret
          exact post_mk rfl (by (try show Ex _ _); repeat (first | (with_reducible exact ex_refl _) | (with_reducible assumption) | (with_reducible refine ex_drewL ?_) | (with_reducible refine ex_appR ?_ _) | (with_reducible refine ex_wx ?_ _) | (with_reducible refine ex_drew ?_) | (with_reducible refine ex_alloc ?_ _)))
      · have hlr : l = r := List.ext_getElem? fun j => by
          by_cases hj : j < k
          · exact HK.out j hj
          · rw [List.getElem?_eq_none (by rw [HL.out]; omega), List.getElem?_eq_none (by rw [HR.out]; omega)]
        have hres := HRES.out
        rw [decide_eq_true hlr] at hres
        subst hres
        obtain rfl : k = n := by omega
        clear hlr hlt hk hs ht HL HR HN HK HRES
        go_wp2
        go_ret
        exact post_mk rfl (by (try show Ex _ _); repeat (first | (with_reducible exact ex_refl _) | (with_reducible assumption) | (with_reducible refine ex_drewL ?_) | (with_reducible refine ex_appR ?_ _) | (with_reducible refine ex_wx ?_ _) | (with_reducible refine ex_drew ?_) | (with_reducible refine ex_alloc ?_ _)))
  · have hne : ¬ l = r := fun h => hn (by rw [h])
    rw [decide_eq_false hne]
    have hb : ((l.length : Int) == r.length) = false := beq_eq_false_iff_ne.2 (by omega)
    have hb2 : (l.length == r.length) = false := beq_eq_false_iff_ne.2 hn
    clear hs ht hne
    generalize l.length = n at hn hl hb hb2 ⊢
    generalize r.length = m at hn hr hb hb2 ⊢
    go_enter Tryd.func21, Tryd.ntmps21
    go_wp2
    go_ret
    exact post_mk rfl (by (try show Ex _ _); repeat (first | (with_reducible exact ex_refl _) | (with_reducible assumption) | (with_reducible refine ex_drewL ?_) | (with_reducible refine ex_appR ?_ _) | (with_reducible refine ex_wx ?_ _) | (with_reducible refine ex_drew ?_) | (with_reducible refine ex_alloc ?_ _)))
end Go.Proofs.YtbobamifpjlmiaaDoor
