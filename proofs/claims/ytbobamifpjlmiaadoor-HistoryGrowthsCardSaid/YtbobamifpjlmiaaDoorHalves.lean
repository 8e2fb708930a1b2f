/- HistoryHalves: what it does. -/
import Derived.Test.YtbobamifpjlmiaaDoorShort
set_option linter.unusedSimpArgs false
set_option linter.unusedVariables false
set_option maxRecDepth 20000
namespace Go.Proofs.YtbobamifpjlmiaaDoor
open Go.RowKit
/-- Digests that were made, with their number. -/
def PostS (W : World) (n : Nat) (l : List Dg) (e : Ending) (w' : World) : Prop := ∃ pa pc, e = .returned (.slice pa n pc) ∧ n ≤ pc ∧ pc ≤ maxLen ∧ (pa = none → pc = 0) ∧ SlD w' pa l ∧ ∃ X, w' = wx W X
theorem postS {W : World} {n : Nat} {l : List Dg} (hn : l.length = n) (e : Ending) (w' : World) (h : PostO W l e w') : PostS W n l e w' := by
  obtain ⟨v, rfl, hown, hx⟩ := h
  obtain ⟨a, c, rfl, h1, h2, h3, h4⟩ := hown.slg
  subst hn
  exact ⟨a, c, rfl, h1, h2, h3, h4, hx⟩
theorem split_and (n : Nat) (h : n ≤ 40) (h2 : 2 ≤ n) : bits BinOp.and IntKind.i64 (splitN n) ((splitN n : Int) - 1) = 0 := by
  have : ∀ k : Fin 41, 2 ≤ k.val → bits BinOp.and IntKind.i64 (splitN k.val) ((splitN k.val : Int) - 1) = 0 := by decide +kernel
  exact this ⟨n, by omega⟩ h2
theorem root_slice {w0 : World} (G : Glob w0) (r : List Dg) (n : Nat) (hn : r.length = n) (hN : n ≤ 1024) (z : Dg) (hz : rootD r = z) : ∀ w' pa pc, Ex w0 w' → n ≤ pc → pc ≤ maxLen → SlD w' pa r →
    Calls Tryd.prog 17 #[.slice pa n pc] w' (Post w' (.tuple #[.agg (rowB 32 (dF z)), I 0])) := by
  intro w' pa pc k h1 h2 h3
  subst hn hz
  exact Root_any r pa pc w' hN h1 h2 h3 (G.ex k)
set_option maxHeartbeats 4000000 in
theorem halves_any (l : List Dg) (a : Option Addr) (c : Nat) (w : World) (hc : l.length ≤ c) (hcm : c ≤ maxLen) (ha : a = none → c = 0) (hs : SlD w a l) (G : Glob w) :
    Calls Tryd.prog 6 #[.slice a l.length c] w (Post w (.bool true)) := by
  obtain ⟨n, hn⟩ : ∃ n, (l.take 40).length = n := ⟨_, rfl⟩
  have hn40 : n ≤ 40 := by rw [← hn, List.length_take]; omega
  have HSH : Hid (∀ w', Ex w w' → Calls Tryd.prog 16 #[.slice a l.length c, I 40] w' (PostS w' n (l.take 40))) := Lib.hid fun w' k => (short_any l 40 a c w' (by omega) hc hcm ha (hs.ex k)).mono (postS hn)
  have HW : Hid (∀ w', Ex w w' → Calls Tryd.prog 15 #[] w' (Post w' (.bool true))) := Lib.hid fun w' k => wakesH_any w' (G.ex k)
  have HSp : Hid (∀ w', Calls Tryd.prog 28 #[I n] w' fun e w'' => e = .returned (I (SplitN n)) ∧ w' = w'') := Lib.hid fun w' => Split_any n w'
  clear hs ha
  generalize l.take 40 = r at hn HSH
  have HRt := Lib.hid (root_slice G r n hn (by omega) _ rfl)
  generalize l.length = n0 at hc HSH ⊢
  unfold maxLen at hcm
  by_cases h2 : 2 ≤ n
  · have hk1 := split_lt h2
    have hk2 := split_pos n
    have hk3 := split_ge h2
    have hka := split_and n hn40 h2
    have hrt := root_two (l := r) (by omega)
    rw [hn] at hrt
    rw [SplitN_in h2 (by omega)] at HSp
    have HRa := Lib.hid (root_slice G (r.take (splitN n)) (splitN n) (by rw [List.length_take]; omega) (by omega) _ rfl)
    have HRb := Lib.hid (root_slice G (r.drop (splitN n)) (n - splitN n) (by rw [List.length_drop, hn]) (by omega) _ rfl)
    have HST : Hid (∀ w' g off, SlD w' (some ⟨g, off, none⟩) r → SlD w' (some ⟨g, off, none⟩) (r.take (splitN n)) ∧ SlD w' (some ⟨g, off + splitN n * 32, none⟩) (r.drop (splitN n))) := Lib.hid fun w' g off h => ⟨h.take _, h.drop _⟩
    have HNo := Lib.hid (node_any G (rootD (r.take (splitN n))) (rootD (r.drop (splitN n))))
    rw [← hrt] at HNo
    generalize rootD r = z at HRt HNo
    generalize rootD (r.take (splitN n)) = x at HRa HNo
    generalize rootD (r.drop (splitN n)) = y at HRb HNo
    generalize r.take (splitN n) = rt at HRa HST
    generalize r.drop (splitN n) = rd at HRb HST
    generalize splitN n = k at hk1 hk2 hk3 hka HSp HRa HRb HST
    have e1 : ((k : Int) == 0) = false := beq_eq_false_iff_ne.2 (by omega)
    have e2 : ¬ (n : Int) < 2 := by omega
    have e2' : decide ((n : Int) < 2) = false := decide_eq_false e2
    have e3 : (k : Int) ≤ n := by omega
    have e4 : (k : Int) < n := by omega
    have e5 : (n : Int) ≤ 2 * k := by omega
    have e6 : (2 * (k : Int)) ≤ 80 := by omega
    have e7 := eqF_same (dF z) 32
    have e8 : (k == 0) = false := beq_eq_false_iff_ne.2 (by omega)
    have HLP : Hid (r.length = n) := Lib.hid hn
    clear hrt hn
    go_enter Tryd.func6, Tryd.ntmps6
    go_wp2_with (first | (go_at_call 15; (with_reducible refine (HW.out _ (by (try show Ex _ _); repeat (first | (with_reducible exact ex_refl _) | (with_reducible assumption) | (with_reducible refine ex_drewL ?_) | (with_reducible refine ex_appR ?_ _) | (with_reducible refine ex_wx ?_ _) | (with_reducible refine ex_drew ?_) | (with_reducible refine ex_alloc ?_ _)))).mono ?_); rintro e w2 ⟨rfl, X1, rfl⟩) | (go_at_call 16; refine (HSH.out _ (by (try show Ex _ _); repeat (first | (with_reducible exact ex_refl _) | (with_reducible assumption) | (with_reducible refine ex_drewL ?_) | (with_reducible refine ex_appR ?_ _) | (with_reducible refine ex_wx ?_ _) | (with_reducible refine ex_drew ?_) | (with_reducible refine ex_alloc ?_ _)))).mono ?_; rintro e w2 ⟨pa, pc, rfl, p1, p2, p3, psl, kx⟩; have K2 : Ex w w2 := ex_trans (by (try show Ex _ _); repeat (first | (with_reducible exact ex_refl _) | (with_reducible assumption) | (with_reducible refine ex_drewL ?_) | (with_reducible refine ex_appR ?_ _) | (with_reducible refine ex_wx ?_ _) | (with_reducible refine ex_drew ?_) | (with_reducible refine ex_alloc ?_ _))) kx; obtain ⟨g, off, rfl, hg, hcell⟩ := psl.pos (by rw [HLP.out]; omega); have q1 := (HST.out _ _ _ psl).1; have q2 := (HST.out _ _ _ psl).2; have q3 : (k : Int) ≤ pc := (by omega); have q4 : ¬ pc = k := (by omega); clear hcell p3 kx; unfold maxLen at p2) | (go_at_call 28; refine (HSp.out _).mono ?_; rintro e w2 ⟨rfl, rfl⟩) | (go_at_call 17; (with_reducible refine (HRt.out _ _ _ (by (try show Ex _ _); repeat (first | (with_reducible exact ex_refl _) | (with_reducible assumption) | (with_reducible refine ex_drewL ?_) | (with_reducible refine ex_appR ?_ _) | (with_reducible refine ex_wx ?_ _) | (with_reducible refine ex_drew ?_) | (with_reducible refine ex_alloc ?_ _))) p1 (by unfold maxLen; omega) (psl.ex (by (try show Ex _ _); repeat (first | (with_reducible exact ex_refl _) | (with_reducible assumption) | (with_reducible refine ex_drewL ?_) | (with_reducible refine ex_appR ?_ _) | (with_reducible refine ex_wx ?_ _) | (with_reducible refine ex_drew ?_) | (with_reducible refine ex_alloc ?_ _))))).mono ?_); rintro e w2 ⟨rfl, X3, rfl⟩) | (go_at_call 17; (with_reducible refine (HRa.out _ _ _ (by (try show Ex _ _); repeat (first | (with_reducible exact ex_refl _) | (with_reducible assumption) | (with_reducible refine ex_drewL ?_) | (with_reducible refine ex_appR ?_ _) | (with_reducible refine ex_wx ?_ _) | (with_reducible refine ex_drew ?_) | (with_reducible refine ex_alloc ?_ _))) (by omega) (by unfold maxLen; omega) (q1.ex (by (try show Ex _ _); repeat (first | (with_reducible exact ex_refl _) | (with_reducible assumption) | (with_reducible refine ex_drewL ?_) | (with_reducible refine ex_appR ?_ _) | (with_reducible refine ex_wx ?_ _) | (with_reducible refine ex_drew ?_) | (with_reducible refine ex_alloc ?_ _))))).mono ?_); rintro e w2 ⟨rfl, X4, rfl⟩) | (go_at_call 17; (with_reducible refine (HRb.out _ _ _ (by (try show Ex _ _); repeat (first | (with_reducible exact ex_refl _) | (with_reducible assumption) | (with_reducible refine ex_drewL ?_) | (with_reducible refine ex_appR ?_ _) | (with_reducible refine ex_wx ?_ _) | (with_reducible refine ex_drew ?_) | (with_reducible refine ex_alloc ?_ _))) (by omega) (by unfold maxLen; omega) (q2.ex (by (try show Ex _ _); repeat (first | (with_reducible exact ex_refl _) | (with_reducible assumption) | (with_reducible refine ex_drewL ?_) | (with_reducible refine ex_appR ?_ _) | (with_reducible refine ex_wx ?_ _) | (with_reducible refine ex_drew ?_) | (with_reducible refine ex_alloc ?_ _))))).mono ?_); rintro e w2 ⟨rfl, X5, rfl⟩))
    refine wp_region_seq [(0, true), (1, true), (2, true), (3, true), (4, true), (5, true), (6, true), (7, true), (8, true), (9, true), (10, true), (11, true), (12, true), (13, true), (14, true), (15, true), (16, true), (17, true), (18, true), (19, true), (20, true), (21, true), (22, true), (23, true), (24, true), (25, true), (26, true), (27, true), (28, true), (29, true), (30, false), (31, true), (32, true), (33, true)] (by kernel_rfl) (by kernel_rfl) (fun _ _ d _ _ h => by cases d <;> exact h) ?_
    simp only [List.map_cons, List.map_nil, nth]
    repeat (first | (refine wpSeq_look ?_; go_big_quiet_step (fail); refine wpQuiet_nil ?_) | (refine wpSeq_effF (by rfl) ?_; go_simp) | (refine wpSeq_eff (by rfl) ?_; (try dsimp only); go_wp2_with (go_at_call 24; (with_reducible refine (HNo.out _ (by (try show Ex _ _); repeat (first | (with_reducible exact ex_refl _) | (with_reducible assumption) | (with_reducible refine ex_drewL ?_) | (with_reducible refine ex_appR ?_ _) | (with_reducible refine ex_wx ?_ _) | (with_reducible refine ex_drew ?_) | (with_reducible refine ex_alloc ?_ _)))).mono ?_); rintro e w2 ⟨rfl, X6, rfl⟩); refine mixQ_mk (by (try show Ex _ _); repeat (first | (with_reducible exact ex_refl _) | (with_reducible assumption) | (with_reducible refine ex_drewL ?_) | (with_reducible refine ex_appR ?_ _) | (with_reducible refine ex_wx ?_ _) | (with_reducible refine ex_drew ?_) | (with_reducible refine ex_alloc ?_ _))) ?_))
    refine wpSeq_nil ?_
    all_goals
      go_wp2
      go_ret
      exact post_mk rfl (by (try show Ex _ _); repeat (first | (with_reducible exact ex_refl _) | (with_reducible assumption) | (with_reducible refine ex_drewL ?_) | (with_reducible refine ex_appR ?_ _) | (with_reducible refine ex_wx ?_ _) | (with_reducible refine ex_drew ?_) | (with_reducible refine ex_alloc ?_ _)))
  · have hk0 : SplitN n = 0 := by unfold SplitN; rw [if_pos (Or.inl (by omega))]
    rw [hk0] at HSp
    have e2 : (n : Int) < 2 := by omega
    have h01 : n = 0 ∨ n = 1 := by omega
    rcases h01 with rfl | rfl
    · obtain rfl := List.eq_nil_of_length_eq_zero hn
      go_enter Tryd.func6, Tryd.ntmps6
      go_wp2_with (first | (go_at_call 15; (with_reducible refine (HW.out _ (by (try show Ex _ _); repeat (first | (with_reducible exact ex_refl _) | (with_reducible assumption) | (with_reducible refine ex_drewL ?_) | (with_reducible refine ex_appR ?_ _) | (with_reducible refine ex_wx ?_ _) | (with_reducible refine ex_drew ?_) | (with_reducible refine ex_alloc ?_ _)))).mono ?_); rintro e w2 ⟨rfl, X1, rfl⟩) | (go_at_call 16; refine (HSH.out _ (by (try show Ex _ _); repeat (first | (with_reducible exact ex_refl _) | (with_reducible assumption) | (with_reducible refine ex_drewL ?_) | (with_reducible refine ex_appR ?_ _) | (with_reducible refine ex_wx ?_ _) | (with_reducible refine ex_drew ?_) | (with_reducible refine ex_alloc ?_ _)))).mono ?_; rintro e w2 ⟨pa, pc, rfl, p1, p2, p3, psl, kx⟩; have K2 : Ex w w2 := ex_trans (by (try show Ex _ _); repeat (first | (with_reducible exact ex_refl _) | (with_reducible assumption) | (with_reducible refine ex_drewL ?_) | (with_reducible refine ex_appR ?_ _) | (with_reducible refine ex_wx ?_ _) | (with_reducible refine ex_drew ?_) | (with_reducible refine ex_alloc ?_ _))) kx; clear p3 kx; unfold maxLen at p2) | (go_at_call 28; refine (HSp.out _).mono ?_; rintro e w2 ⟨rfl, rfl⟩) | (go_at_call 17; (with_reducible refine (HRt.out _ _ _ (by (try show Ex _ _); repeat (first | (with_reducible exact ex_refl _) | (with_reducible assumption) | (with_reducible refine ex_drewL ?_) | (with_reducible refine ex_appR ?_ _) | (with_reducible refine ex_wx ?_ _) | (with_reducible refine ex_drew ?_) | (with_reducible refine ex_alloc ?_ _))) p1 (by unfold maxLen; omega) (psl.ex (by (try show Ex _ _); repeat (first | (with_reducible exact ex_refl _) | (with_reducible assumption) | (with_reducible refine ex_drewL ?_) | (with_reducible refine ex_appR ?_ _) | (with_reducible refine ex_wx ?_ _) | (with_reducible refine ex_drew ?_) | (with_reducible refine ex_alloc ?_ _))))).mono ?_); rintro e w2 ⟨rfl, X3, rfl⟩))
      refine wp_region_seq [(0, true), (1, true), (2, true), (3, true), (4, true), (5, true), (6, true), (7, true), (8, true), (9, true), (10, true)] (by kernel_rfl) (by kernel_rfl) (fun _ _ d _ _ h => by cases d <;> exact h) ?_
      simp only [List.map_cons, List.map_nil, nth]
      repeat (first | (refine wpSeq_look ?_; go_big_quiet_step (fail); refine wpQuiet_nil ?_) | (refine wpSeq_effF (by rfl) ?_; go_simp) | (refine wpSeq_eff (by rfl) ?_; (try dsimp only); go_wp2_with (fail); refine mixQ_mk (by (try show Ex _ _); repeat (first | (with_reducible exact ex_refl _) | (with_reducible assumption) | (with_reducible refine ex_drewL ?_) | (with_reducible refine ex_appR ?_ _) | (with_reducible refine ex_wx ?_ _) | (with_reducible refine ex_drew ?_) | (with_reducible refine ex_alloc ?_ _))) ?_))
      refine wpSeq_nil ?_
      all_goals
        go_wp2
        go_ret
        exact post_mk rfl (by (try show Ex _ _); repeat (first | (with_reducible exact ex_refl _) | (with_reducible assumption) | (with_reducible refine ex_drewL ?_) | (with_reducible refine ex_appR ?_ _) | (with_reducible refine ex_wx ?_ _) | (with_reducible refine ex_drew ?_) | (with_reducible refine ex_alloc ?_ _)))
    · obtain ⟨x, rfl⟩ := List.length_eq_one_iff.1 hn
      rw [root_one] at HRt
      have e7 := eqF_same (dF x) 32
      go_enter Tryd.func6, Tryd.ntmps6
      go_wp2_with (first | (go_at_call 15; (with_reducible refine (HW.out _ (by (try show Ex _ _); repeat (first | (with_reducible exact ex_refl _) | (with_reducible assumption) | (with_reducible refine ex_drewL ?_) | (with_reducible refine ex_appR ?_ _) | (with_reducible refine ex_wx ?_ _) | (with_reducible refine ex_drew ?_) | (with_reducible refine ex_alloc ?_ _)))).mono ?_); rintro e w2 ⟨rfl, X1, rfl⟩) | (go_at_call 16; refine (HSH.out _ (by (try show Ex _ _); repeat (first | (with_reducible exact ex_refl _) | (with_reducible assumption) | (with_reducible refine ex_drewL ?_) | (with_reducible refine ex_appR ?_ _) | (with_reducible refine ex_wx ?_ _) | (with_reducible refine ex_drew ?_) | (with_reducible refine ex_alloc ?_ _)))).mono ?_; rintro e w2 ⟨pa, pc, rfl, p1, p2, p3, psl, kx⟩; have K2 : Ex w w2 := ex_trans (by (try show Ex _ _); repeat (first | (with_reducible exact ex_refl _) | (with_reducible assumption) | (with_reducible refine ex_drewL ?_) | (with_reducible refine ex_appR ?_ _) | (with_reducible refine ex_wx ?_ _) | (with_reducible refine ex_drew ?_) | (with_reducible refine ex_alloc ?_ _))) kx; obtain ⟨g, off, rfl, hg, hcell⟩ := psl.pos (by simp); have h1 := hcell 0 x rfl; rw [Nat.zero_mul, Nat.add_zero] at h1; clear p3 hcell kx; unfold maxLen at p2) | (go_at_call 28; refine (HSp.out _).mono ?_; rintro e w2 ⟨rfl, rfl⟩) | (go_at_call 17; (with_reducible refine (HRt.out _ _ _ (by (try show Ex _ _); repeat (first | (with_reducible exact ex_refl _) | (with_reducible assumption) | (with_reducible refine ex_drewL ?_) | (with_reducible refine ex_appR ?_ _) | (with_reducible refine ex_wx ?_ _) | (with_reducible refine ex_drew ?_) | (with_reducible refine ex_alloc ?_ _))) p1 (by unfold maxLen; omega) (psl.ex (by (try show Ex _ _); repeat (first | (with_reducible exact ex_refl _) | (with_reducible assumption) | (with_reducible refine ex_drewL ?_) | (with_reducible refine ex_appR ?_ _) | (with_reducible refine ex_wx ?_ _) | (with_reducible refine ex_drew ?_) | (with_reducible refine ex_alloc ?_ _))))).mono ?_); rintro e w2 ⟨rfl, X3, rfl⟩))
      refine wp_region_seq [(0, true), (1, true), (2, true), (3, true), (4, true), (5, true), (6, true), (7, true), (8, true), (9, true), (10, true)] (by kernel_rfl) (by kernel_rfl) (fun _ _ d _ _ h => by cases d <;> exact h) ?_
      simp only [List.map_cons, List.map_nil, nth]
      repeat (first | (refine wpSeq_look ?_; go_big_quiet_step (fail); refine wpQuiet_nil ?_) | (refine wpSeq_effF (by rfl) ?_; go_simp) | (refine wpSeq_eff (by rfl) ?_; (try dsimp only); go_wp2_with (fail); refine mixQ_mk (by (try show Ex _ _); repeat (first | (with_reducible exact ex_refl _) | (with_reducible assumption) | (with_reducible refine ex_drewL ?_) | (with_reducible refine ex_appR ?_ _) | (with_reducible refine ex_wx ?_ _) | (with_reducible refine ex_drew ?_) | (with_reducible refine ex_alloc ?_ _))) ?_))
      refine wpSeq_nil ?_
      all_goals
        go_wp2
        go_ret
        exact post_mk rfl (by (try show Ex _ _); repeat (first | (with_reducible exact ex_refl _) | (with_reducible assumption) | (with_reducible refine ex_drewL ?_) | (with_reducible refine ex_appR ?_ _) | (with_reducible refine ex_wx ?_ _) | (with_reducible refine ex_drew ?_) | (with_reducible refine ex_alloc ?_ _)))
end Go.Proofs.YtbobamifpjlmiaaDoor
