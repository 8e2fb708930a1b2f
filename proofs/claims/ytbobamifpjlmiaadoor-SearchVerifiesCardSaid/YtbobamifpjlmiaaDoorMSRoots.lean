import Derived.Test.YtbobamifpjlmiaaDoorMSDig

/- SearchRoots: what it does. -/
set_option linter.unusedSimpArgs false
set_option linter.unusedVariables false
set_option maxRecDepth 20000
namespace Go.Proofs.YtbobamifpjlmiaaDoor
open Go.RowKit
/-- A slice of pairs that was made. -/
def PostSP (n : Nat) (l : List Pr) (W : World) (e : Ending) (w' : World) : Prop := ∃ pa pc, e = .returned (.slice pa n pc) ∧ (n ≤ pc ∧ pc ≤ maxLen ∧ (pa = none → pc = 0) ∧ SlP w' pa l) ∧ ∃ X, w' = wx W X
theorem copied_slice (l : List Pr) (a : Option Addr) (c : Nat) (w : World) (hl : l.length ≤ 1000) (hc : l.length ≤ c) (hcm : c ≤ maxLen) (ha : a = none → c = 0) (hs : SlP w a l) :
    Calls Tryd.prog 38 #[.slice a l.length c] w (PostSP l.length l w) :=
  (copied_any l a c w hl hc hcm ha hs).mono fun e w' ⟨v, h1, h2, h3⟩ => by
    obtain ⟨pa, pc, rfl, u1, u2, u3, u4⟩ := h2.slg
    exact ⟨pa, pc, h1, ⟨u1, u2, u3, u4⟩, h3⟩
theorem over_len {l : List Pr} (h : overP l = false) : l.length ≤ 300 := by
  simp only [overP, Bool.or_eq_false_iff, decide_eq_false_iff_not] at h
  omega
theorem over_small {l : List Pr} (h : overP l = false) : smallP l := by
  simp only [overP, Bool.or_eq_false_iff, List.any_eq_false, Bool.or_eq_true, decide_eq_true_eq] at h
  intro p hp
  have := h.2 p hp
  omega
set_option maxHeartbeats 4000000 in
theorem sroots_any (l : List Pr) (a : Option Addr) (c : Nat) (r : Rg) (key : ByteArray) (w : World) (hc : l.length ≤ c) (hcm : c ≤ maxLen) (ha : a = none → c = 0) (hs : SlP w a l) (hkm : key.size ≤ maxLen) (G : Glob w) :
    Calls Tryd.prog 8 #[.slice a l.length c, .agg (RC r), .string key] w (Post w (.bool true)) := by
  have HW : Hid (∀ w', Ex w w' → Calls Tryd.prog 34 #[] w' (Post w' (.bool true))) := Lib.hid fun w' k => wakesP_any w' (G.ex k)
  have HO : Hid (∀ w', Ex w w' → Calls Tryd.prog 35 #[.slice a l.length c] w' (Post w' (.bool (overP l)))) := Lib.hid fun w' k => overP_any l a c w' hc hcm (hs.ex k)
  have HOR := Lib.hid (fun w' => overR_any r w')
  have HIN := Lib.hid (fun w' => in_any r key w')
  have HRI := Lib.hid (fun w' => refin_any r key w')
  obtain ⟨b, hb⟩ : ∃ b, inP r key = b := ⟨_, rfl⟩
  rw [hb] at HIN HRI
  clear hb
  cases hov : overP l with
  | true =>
    rw [hov] at HO
    obtain ⟨lo, hi, op⟩ := r
    unfold RC at HOR ⊢
    simp only at HOR ⊢
    generalize l.length = n at *
    clear hs hov HIN HRI
    go_enter Tryd.func8, Tryd.ntmps8
    go_wp2_with (first | (go_at_call 34; (with_reducible refine (HW.out _ (by (try show Ex _ _); repeat (first | (with_reducible exact ex_refl _) | (with_reducible assumption) | (with_reducible refine ex_drewL ?_) | (with_reducible refine ex_appR ?_ _) | (with_reducible refine ex_wx ?_ _) | (with_reducible refine ex_drew ?_) | (with_reducible refine ex_alloc ?_ _)))).mono ?_); rintro e w2 ⟨rfl, X, rfl⟩) | (go_at_call 35; (with_reducible refine (HO.out _ (by (try show Ex _ _); repeat (first | (with_reducible exact ex_refl _) | (with_reducible assumption) | (with_reducible refine ex_drewL ?_) | (with_reducible refine ex_appR ?_ _) | (with_reducible refine ex_wx ?_ _) | (with_reducible refine ex_drew ?_) | (with_reducible refine ex_alloc ?_ _)))).mono ?_); rintro e w2 ⟨rfl, X, rfl⟩) | (go_at_call 36; (with_reducible refine (HOR.out _).mono ?_); rintro e w2 ⟨rfl, X, rfl⟩))
    go_ret
    exact post_mk rfl (by (try show Ex _ _); repeat (first | (with_reducible exact ex_refl _) | (with_reducible assumption) | (with_reducible refine ex_drewL ?_) | (with_reducible refine ex_appR ?_ _) | (with_reducible refine ex_wx ?_ _) | (with_reducible refine ex_drew ?_) | (with_reducible refine ex_alloc ?_ _)))
  | false =>
    rw [hov] at HO
    cases hor : overR r with
    | true =>
      rw [hor] at HOR
      obtain ⟨lo, hi, op⟩ := r
      unfold RC at HOR ⊢
      simp only at HOR ⊢
      generalize l.length = n at *
      clear hs hov hor HIN HRI
      go_enter Tryd.func8, Tryd.ntmps8
      go_wp2_with (first | (go_at_call 34; (with_reducible refine (HW.out _ (by (try show Ex _ _); repeat (first | (with_reducible exact ex_refl _) | (with_reducible assumption) | (with_reducible refine ex_drewL ?_) | (with_reducible refine ex_appR ?_ _) | (with_reducible refine ex_wx ?_ _) | (with_reducible refine ex_drew ?_) | (with_reducible refine ex_alloc ?_ _)))).mono ?_); rintro e w2 ⟨rfl, X, rfl⟩) | (go_at_call 35; (with_reducible refine (HO.out _ (by (try show Ex _ _); repeat (first | (with_reducible exact ex_refl _) | (with_reducible assumption) | (with_reducible refine ex_drewL ?_) | (with_reducible refine ex_appR ?_ _) | (with_reducible refine ex_wx ?_ _) | (with_reducible refine ex_drew ?_) | (with_reducible refine ex_alloc ?_ _)))).mono ?_); rintro e w2 ⟨rfl, X, rfl⟩) | (go_at_call 36; (with_reducible refine (HOR.out _).mono ?_); rintro e w2 ⟨rfl, X, rfl⟩))
      go_ret
      exact post_mk rfl (by (try show Ex _ _); repeat (first | (with_reducible exact ex_refl _) | (with_reducible assumption) | (with_reducible refine ex_drewL ?_) | (with_reducible refine ex_appR ?_ _) | (with_reducible refine ex_wx ?_ _) | (with_reducible refine ex_drew ?_) | (with_reducible refine ex_alloc ?_ _)))
    | false =>
      rw [hor] at HOR
      by_cases hk : 3000 < key.size
      · have hk1 := decide_eq_true (show (3000 : Int) < key.size by omega)
        have hk2 := decide_eq_true hk
        obtain ⟨lo, hi, op⟩ := r
        unfold RC at HOR ⊢
        simp only at HOR ⊢
        generalize l.length = n at *
        clear hs hov hor HIN HRI
        go_enter Tryd.func8, Tryd.ntmps8
        go_wp2_with (first | (go_at_call 34; (with_reducible refine (HW.out _ (by (try show Ex _ _); repeat (first | (with_reducible exact ex_refl _) | (with_reducible assumption) | (with_reducible refine ex_drewL ?_) | (with_reducible refine ex_appR ?_ _) | (with_reducible refine ex_wx ?_ _) | (with_reducible refine ex_drew ?_) | (with_reducible refine ex_alloc ?_ _)))).mono ?_); rintro e w2 ⟨rfl, X, rfl⟩) | (go_at_call 35; (with_reducible refine (HO.out _ (by (try show Ex _ _); repeat (first | (with_reducible exact ex_refl _) | (with_reducible assumption) | (with_reducible refine ex_drewL ?_) | (with_reducible refine ex_appR ?_ _) | (with_reducible refine ex_wx ?_ _) | (with_reducible refine ex_drew ?_) | (with_reducible refine ex_alloc ?_ _)))).mono ?_); rintro e w2 ⟨rfl, X, rfl⟩) | (go_at_call 36; (with_reducible refine (HOR.out _).mono ?_); rintro e w2 ⟨rfl, X, rfl⟩))
        go_ret
        exact post_mk rfl (by (try show Ex _ _); repeat (first | (with_reducible exact ex_refl _) | (with_reducible assumption) | (with_reducible refine ex_drewL ?_) | (with_reducible refine ex_appR ?_ _) | (with_reducible refine ex_wx ?_ _) | (with_reducible refine ex_drew ?_) | (with_reducible refine ex_alloc ?_ _)))
      · have hk1 := decide_eq_false (show ¬ (3000 : Int) < key.size by omega)
        have hk2 := decide_eq_false hk
        have hl3 := over_len hov
        have hsm := over_small hov
        have HCp : Hid (∀ w', Ex w w' → Calls Tryd.prog 38 #[.slice a l.length c] w' (PostSP l.length l w')) := Lib.hid fun w' k => copied_slice l a c w' (by omega) hc hcm ha (hs.ex k)
        have HRt : Hid (∀ pa pc w', Ex w w' → l.length ≤ pc → pc ≤ maxLen → SlP w' pa l → Calls Tryd.prog 37 #[.slice pa l.length pc] w' (Post w' (.tuple #[.agg (rowB 32 (dF (rootR l))), I (chkP l)]))) := Lib.hid fun pa pc w' k h1 h2 h3 => sroot_any (G.ex k) l pa pc w' (ex_refl _) h1 h2 h3
        have HCk : Hid (∀ pa pc w', Ex w w' → l.length ≤ pc → pc ≤ maxLen → SlP w' pa l → Calls Tryd.prog 39 #[.slice pa l.length pc] w' (Post w' (I (chkP l)))) := Lib.hid fun pa pc w' k h1 h2 h3 => Check_any l pa pc w' h1 h2 h3
        have HRg : Hid (∀ w', Ex w w' → Calls Tryd.prog 42 #[.slice a l.length c] w' (Post w' (.bool (rightP l)))) := Lib.hid fun w' k => Right_any l a c w' hc hcm (hs.ex k)
        have HRR : Hid (∀ w', Ex w w' → Calls Tryd.prog 43 #[.slice a l.length c] w' (Post w' (.agg (rowB 32 (dF (rootP l)))))) := Lib.hid fun w' k => refrootP_any l a c w' (by omega) hc hcm (hs.ex k) hsm
        have hbb : (b != b) = false := by cases b <;> rfl
        unfold rootR chkP at HRt
        unfold chkP at HCk
        cases hr : rightP l with
        | false =>
          rw [hr] at HRt HCk HRg
          simp only [Bool.false_eq_true, if_false] at HRt HCk
          rw [row_zero] at HRt
          have hE := eqF_same (fun _ => 0) 32
          obtain ⟨lo, hi, op⟩ := r
          unfold RC at HOR HIN HRI ⊢
          simp only at HOR HIN HRI ⊢
          generalize l.length = n at *
          clear hs hov hor hr HRR hsm
          go_enter Tryd.func8, Tryd.ntmps8
          go_wp2_with (first | (go_at_call 34; (with_reducible refine (HW.out _ (by (try show Ex _ _); repeat (first | (with_reducible exact ex_refl _) | (with_reducible assumption) | (with_reducible refine ex_drewL ?_) | (with_reducible refine ex_appR ?_ _) | (with_reducible refine ex_wx ?_ _) | (with_reducible refine ex_drew ?_) | (with_reducible refine ex_alloc ?_ _)))).mono ?_); rintro e w2 ⟨rfl, X, rfl⟩) | (go_at_call 35; (with_reducible refine (HO.out _ (by (try show Ex _ _); repeat (first | (with_reducible exact ex_refl _) | (with_reducible assumption) | (with_reducible refine ex_drewL ?_) | (with_reducible refine ex_appR ?_ _) | (with_reducible refine ex_wx ?_ _) | (with_reducible refine ex_drew ?_) | (with_reducible refine ex_alloc ?_ _)))).mono ?_); rintro e w2 ⟨rfl, X, rfl⟩) | (go_at_call 36; (with_reducible refine (HOR.out _).mono ?_); rintro e w2 ⟨rfl, X, rfl⟩) | (go_at_call 38; (with_reducible refine (HCp.out _ (by (try show Ex _ _); repeat (first | (with_reducible exact ex_refl _) | (with_reducible assumption) | (with_reducible refine ex_drewL ?_) | (with_reducible refine ex_appR ?_ _) | (with_reducible refine ex_wx ?_ _) | (with_reducible refine ex_drew ?_) | (with_reducible refine ex_alloc ?_ _)))).mono ?_); rintro e w2 ⟨pa, pc, rfl, ⟨u1, u2, _, u4⟩, X, rfl⟩; (try simp only [wx_wx, wx_drew] at u4); replace u4 := Lib.hid u4) | (go_at_call 37; (with_reducible refine (HRt.out _ _ _ (by (try show Ex _ _); repeat (first | (with_reducible exact ex_refl _) | (with_reducible assumption) | (with_reducible refine ex_drewL ?_) | (with_reducible refine ex_appR ?_ _) | (with_reducible refine ex_wx ?_ _) | (with_reducible refine ex_drew ?_) | (with_reducible refine ex_alloc ?_ _))) u1 u2 (u4.out.ex (by (try show Ex _ _); repeat (first | (with_reducible exact ex_refl _) | (with_reducible assumption) | (with_reducible refine ex_drewL ?_) | (with_reducible refine ex_appR ?_ _) | (with_reducible refine ex_wx ?_ _) | (with_reducible refine ex_drew ?_) | (with_reducible refine ex_alloc ?_ _))))).mono ?_); rintro e w2 ⟨rfl, X, rfl⟩; clear u1 u2 u4) | (go_at_call 39; (with_reducible refine (HCk.out _ _ _ (by (try show Ex _ _); repeat (first | (with_reducible exact ex_refl _) | (with_reducible assumption) | (with_reducible refine ex_drewL ?_) | (with_reducible refine ex_appR ?_ _) | (with_reducible refine ex_wx ?_ _) | (with_reducible refine ex_drew ?_) | (with_reducible refine ex_alloc ?_ _))) u1 u2 (u4.out.ex (by (try show Ex _ _); repeat (first | (with_reducible exact ex_refl _) | (with_reducible assumption) | (with_reducible refine ex_drewL ?_) | (with_reducible refine ex_appR ?_ _) | (with_reducible refine ex_wx ?_ _) | (with_reducible refine ex_drew ?_) | (with_reducible refine ex_alloc ?_ _))))).mono ?_); rintro e w2 ⟨rfl, X, rfl⟩; clear u1 u2 u4))
          refine wp_region_seq [(0, true), (1, true), (3, true), (4, true), (2, false), (5, false), (6, true)] (by kernel_rfl) (by kernel_rfl) (fun _ _ d _ _ h => by cases d <;> exact h) ?_
          simp only [List.map_cons, List.map_nil, nth]
          repeat (first | ((with_reducible refine wpSeq_look ?_); go_big_quiet_step (fail); (with_reducible refine wpQuiet_nil ?_)) | ((with_reducible refine wpSeq_effF ?_ ?_); (focus rfl); go_simp) | ((with_reducible refine wpSeq_eff ?_ ?_); (focus rfl); (try dsimp only); go_wp2_with (first | (go_at_call 40; (with_reducible refine (HIN.out _).mono ?_); rintro e w2 ⟨rfl, X, rfl⟩) | (go_at_call 41; (with_reducible refine (HRI.out _).mono ?_); rintro e w2 ⟨rfl, X, rfl⟩)); refine mixQ_mk (by (try show Ex _ _); repeat (first | (with_reducible exact ex_refl _) | (with_reducible assumption) | (with_reducible refine ex_drewL ?_) | (with_reducible refine ex_appR ?_ _) | (with_reducible refine ex_wx ?_ _) | (with_reducible refine ex_drew ?_) | (with_reducible refine ex_alloc ?_ _))) ?_))
          refine wpSeq_nil ?_
          go_wp2_with (go_at_call 42; (with_reducible refine (HRg.out _ (by (try show Ex _ _); repeat (first | (with_reducible exact ex_refl _) | (with_reducible assumption) | (with_reducible refine ex_drewL ?_) | (with_reducible refine ex_appR ?_ _) | (with_reducible refine ex_wx ?_ _) | (with_reducible refine ex_drew ?_) | (with_reducible refine ex_alloc ?_ _)))).mono ?_); rintro e w2 ⟨rfl, X, rfl⟩)
          go_ret
          exact post_mk rfl (by (try show Ex _ _); repeat (first | (with_reducible exact ex_refl _) | (with_reducible assumption) | (with_reducible refine ex_drewL ?_) | (with_reducible refine ex_appR ?_ _) | (with_reducible refine ex_wx ?_ _) | (with_reducible refine ex_drew ?_) | (with_reducible refine ex_alloc ?_ _)))
        | true =>
          rw [hr] at HRt HCk HRg
          simp only [if_true] at HRt HCk
          generalize rootP l = z at *
          have hE := eqF_same (dF z) 32
          obtain ⟨lo, hi, op⟩ := r
          unfold RC at HOR HIN HRI ⊢
          simp only at HOR HIN HRI ⊢
          generalize l.length = n at *
          clear hs hov hor hr hsm
          go_enter Tryd.func8, Tryd.ntmps8
          go_wp2_with (first | (go_at_call 34; (with_reducible refine (HW.out _ (by (try show Ex _ _); repeat (first | (with_reducible exact ex_refl _) | (with_reducible assumption) | (with_reducible refine ex_drewL ?_) | (with_reducible refine ex_appR ?_ _) | (with_reducible refine ex_wx ?_ _) | (with_reducible refine ex_drew ?_) | (with_reducible refine ex_alloc ?_ _)))).mono ?_); rintro e w2 ⟨rfl, X, rfl⟩) | (go_at_call 35; (with_reducible refine (HO.out _ (by (try show Ex _ _); repeat (first | (with_reducible exact ex_refl _) | (with_reducible assumption) | (with_reducible refine ex_drewL ?_) | (with_reducible refine ex_appR ?_ _) | (with_reducible refine ex_wx ?_ _) | (with_reducible refine ex_drew ?_) | (with_reducible refine ex_alloc ?_ _)))).mono ?_); rintro e w2 ⟨rfl, X, rfl⟩) | (go_at_call 36; (with_reducible refine (HOR.out _).mono ?_); rintro e w2 ⟨rfl, X, rfl⟩) | (go_at_call 38; (with_reducible refine (HCp.out _ (by (try show Ex _ _); repeat (first | (with_reducible exact ex_refl _) | (with_reducible assumption) | (with_reducible refine ex_drewL ?_) | (with_reducible refine ex_appR ?_ _) | (with_reducible refine ex_wx ?_ _) | (with_reducible refine ex_drew ?_) | (with_reducible refine ex_alloc ?_ _)))).mono ?_); rintro e w2 ⟨pa, pc, rfl, ⟨u1, u2, _, u4⟩, X, rfl⟩; (try simp only [wx_wx, wx_drew] at u4); replace u4 := Lib.hid u4) | (go_at_call 37; (with_reducible refine (HRt.out _ _ _ (by (try show Ex _ _); repeat (first | (with_reducible exact ex_refl _) | (with_reducible assumption) | (with_reducible refine ex_drewL ?_) | (with_reducible refine ex_appR ?_ _) | (with_reducible refine ex_wx ?_ _) | (with_reducible refine ex_drew ?_) | (with_reducible refine ex_alloc ?_ _))) u1 u2 (u4.out.ex (by (try show Ex _ _); repeat (first | (with_reducible exact ex_refl _) | (with_reducible assumption) | (with_reducible refine ex_drewL ?_) | (with_reducible refine ex_appR ?_ _) | (with_reducible refine ex_wx ?_ _) | (with_reducible refine ex_drew ?_) | (with_reducible refine ex_alloc ?_ _))))).mono ?_); rintro e w2 ⟨rfl, X, rfl⟩; clear u1 u2 u4) | (go_at_call 39; (with_reducible refine (HCk.out _ _ _ (by (try show Ex _ _); repeat (first | (with_reducible exact ex_refl _) | (with_reducible assumption) | (with_reducible refine ex_drewL ?_) | (with_reducible refine ex_appR ?_ _) | (with_reducible refine ex_wx ?_ _) | (with_reducible refine ex_drew ?_) | (with_reducible refine ex_alloc ?_ _))) u1 u2 (u4.out.ex (by (try show Ex _ _); repeat (first | (with_reducible exact ex_refl _) | (with_reducible assumption) | (with_reducible refine ex_drewL ?_) | (with_reducible refine ex_appR ?_ _) | (with_reducible refine ex_wx ?_ _) | (with_reducible refine ex_drew ?_) | (with_reducible refine ex_alloc ?_ _))))).mono ?_); rintro e w2 ⟨rfl, X, rfl⟩; clear u1 u2 u4))
          refine wp_region_seq [(0, true), (1, true), (3, true), (4, true), (2, false), (5, false), (6, true)] (by kernel_rfl) (by kernel_rfl) (fun _ _ d _ _ h => by cases d <;> exact h) ?_
          simp only [List.map_cons, List.map_nil, nth]
          repeat (first | ((with_reducible refine wpSeq_look ?_); go_big_quiet_step (fail); (with_reducible refine wpQuiet_nil ?_)) | ((with_reducible refine wpSeq_effF ?_ ?_); (focus rfl); go_simp) | ((with_reducible refine wpSeq_eff ?_ ?_); (focus rfl); (try dsimp only); go_wp2_with (first | (go_at_call 40; (with_reducible refine (HIN.out _).mono ?_); rintro e w2 ⟨rfl, X, rfl⟩) | (go_at_call 41; (with_reducible refine (HRI.out _).mono ?_); rintro e w2 ⟨rfl, X, rfl⟩)); refine mixQ_mk (by (try show Ex _ _); repeat (first | (with_reducible exact ex_refl _) | (with_reducible assumption) | (with_reducible refine ex_drewL ?_) | (with_reducible refine ex_appR ?_ _) | (with_reducible refine ex_wx ?_ _) | (with_reducible refine ex_drew ?_) | (with_reducible refine ex_alloc ?_ _))) ?_))
          refine wpSeq_nil ?_
          go_wp2_with (go_at_call 42; (with_reducible refine (HRg.out _ (by (try show Ex _ _); repeat (first | (with_reducible exact ex_refl _) | (with_reducible assumption) | (with_reducible refine ex_drewL ?_) | (with_reducible refine ex_appR ?_ _) | (with_reducible refine ex_wx ?_ _) | (with_reducible refine ex_drew ?_) | (with_reducible refine ex_alloc ?_ _)))).mono ?_); rintro e w2 ⟨rfl, X, rfl⟩)
          refine wp_region_seq [(0, true), (1, true), (2, true), (3, true), (4, true), (5, true), (6, true), (7, true), (8, true), (9, false), (10, true), (11, true), (12, true)] (by kernel_rfl) (by kernel_rfl) (fun _ _ d _ _ h => by cases d <;> exact h) ?_
          simp only [List.map_cons, List.map_nil, nth]
          repeat (first | ((with_reducible refine wpSeq_look ?_); go_big_quiet_step (fail); (with_reducible refine wpQuiet_nil ?_)) | ((with_reducible refine wpSeq_effF ?_ ?_); (focus rfl); go_simp) | ((with_reducible refine wpSeq_eff ?_ ?_); (focus rfl); (try dsimp only); go_wp2_with ((go_at_call 43; (with_reducible refine (HRR.out _ (by (try show Ex _ _); repeat (first | (with_reducible exact ex_refl _) | (with_reducible assumption) | (with_reducible refine ex_drewL ?_) | (with_reducible refine ex_appR ?_ _) | (with_reducible refine ex_wx ?_ _) | (with_reducible refine ex_drew ?_) | (with_reducible refine ex_alloc ?_ _)))).mono ?_); rintro e w2 ⟨rfl, X, rfl⟩)); refine mixQ_mk (by (try show Ex _ _); repeat (first | (with_reducible exact ex_refl _) | (with_reducible assumption) | (with_reducible refine ex_drewL ?_) | (with_reducible refine ex_appR ?_ _) | (with_reducible refine ex_wx ?_ _) | (with_reducible refine ex_drew ?_) | (with_reducible refine ex_alloc ?_ _))) ?_))
          refine wpSeq_nil ?_
          go_wp2
          go_ret
          exact post_mk rfl (by (try show Ex _ _); repeat (first | (with_reducible exact ex_refl _) | (with_reducible assumption) | (with_reducible refine ex_drewL ?_) | (with_reducible refine ex_appR ?_ _) | (with_reducible refine ex_wx ?_ _) | (with_reducible refine ex_drew ?_) | (with_reducible refine ex_alloc ?_ _)))
end Go.Proofs.YtbobamifpjlmiaaDoor
