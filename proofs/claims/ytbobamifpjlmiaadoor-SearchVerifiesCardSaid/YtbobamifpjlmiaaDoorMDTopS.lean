import Derived.Test.YtbobamifpjlmiaaDoorMDTop

/- The document's root of a span: what it computes. -/
set_option linter.unusedSimpArgs false
set_option linter.unusedVariables false
set_option maxRecDepth 20000
namespace Go.Proofs.YtbobamifpjlmiaaDoor
open Go.RowKit
/-- A root, or none. -/
def PostTd (o : Option Dg) (W : World) (e : Ending) (w' : World) : Prop := ∃ d : Dg, e = .returned (.tuple #[.agg (rowB 32 (dF d)), .bool o.isSome]) ∧ (∀ x, o = some x → x = d) ∧ ∃ X, w' = wx W X
theorem right_small {l : List Pr} (h : rightP l = true) : smallP l := fun p hp => by
  obtain ⟨i, hi⟩ := List.mem_iff_getElem?.1 hp
  have hl := (List.getElem?_eq_some_iff.1 hi).1
  rw [prAt_get hl] at hi
  obtain rfl := Option.some.inj hi
  have := right_size h hl
  omega
set_option maxHeartbeats 4000000 in
theorem doctopS_any (t f : Int) (ps : List Pr) (qs : List Dg) (pa qa : Option Addr) (pc qc : Nat) (w : World) (hpc : ps.length ≤ pc) (hpm : pc ≤ maxLen) (hqc : qs.length ≤ qc) (hqm : qc ≤ maxLen) (hps : SlP w pa ps) (hqs : SlD w qa qs) :
    Calls Tryd.prog 48 #[.agg #[I t, I f, .slice pa ps.length pc, .slice qa qs.length qc]] w (PostTd (topS t f ps qs) w) := by
  have HRg : Hid (∀ w', Ex w w' → Calls Tryd.prog 42 #[.slice pa ps.length pc] w' (Post w' (.bool (rightP ps)))) := Lib.hid fun w' k => Right_any ps pa pc w' hpc hpm (hps.ex k)
  by_cases hok : okS t f ps
  · have hok2 := hok
    obtain ⟨o1, o2, o3, o4, o5, o6⟩ := hok2
    rw [o6] at HRg
    obtain ⟨T, rfl⟩ : ∃ T : Nat, t = T := ⟨t.toNat, by omega⟩
    obtain ⟨F, rfl⟩ : ∃ F : Nat, f = F := ⟨f.toNat, by omega⟩
    have c1t : decide ((T : Int) < 0) = false := decide_eq_false (by omega)
    have c2t : decide ((200 : Int) < T) = false := decide_eq_false (by omega)
    have c2u : decide (200 < T) = false := decide_eq_false (by omega)
    have c3t : decide ((F : Int) < 0) = false := decide_eq_false (by omega)
    have c4t : decide ((200 : Int) < F) = false := decide_eq_false (by omega)
    have c4u : decide (200 < F) = false := decide_eq_false (by omega)
    have c5t : decide ((200 : Int) < ps.length) = false := decide_eq_false (by omega)
    have c5u : decide (200 < ps.length) = false := decide_eq_false (by omega)
    have c6t : decide ((T : Int) < (F : Int) + ps.length) = false := decide_eq_false (by omega)
    have c6u : decide (T < F + ps.length) = false := decide_eq_false (by omega)
    by_cases h0 : T = 0
    · subst h0
      have hl0 : ps.length = 0 := by omega
      have hF0 : F = 0 := by omega
      subst hF0
      have HR0 : Hid (∀ w', Calls Tryd.prog 43 #[.slice none 0 0] w' (Post w' (.agg (rowB 32 (dF (rootP [])))))) := Lib.hid fun w' => refrootP_any [] none 0 w' (by simp) (by simp) (by decide) (SlP.nil _ _) (fun p hp => by cases hp)
      have hx : ∀ b : Bool, decide (qs.length = 0) = b → topS ((0 : Nat) : Int) ((0 : Nat) : Int) ps qs = if b then some (rootP []) else none := fun b hb => by
        unfold topS; rw [if_pos hok, if_pos (show ((0 : Nat) : Int) = 0 from rfl)]
        by_cases hq0 : qs.length = 0
        · rw [decide_eq_true hq0] at hb; subst hb; rw [if_pos hq0]; rfl
        · rw [decide_eq_false hq0] at hb; subst hb; rw [if_neg hq0]; rfl
      generalize rootP [] = R at HR0 hx
      rw [hl0] at HRg c5t c5u c6t c6u ⊢
      have z0 : ((0 : Int) == 0) = true := rfl
      rw [show ((0 : Nat) : Int) = 0 from rfl] at hx ⊢
      by_cases hq0 : qs.length = 0
      · rw [hx true (decide_eq_true hq0), hq0]
        clear hx hok o1 o2 o3 o4 o5 o6 hps hqs hq0 hqc
        go_enter Tryd.func48, Tryd.ntmps48
        go_wp2_with (go_at_call 42; (with_reducible refine (HRg.out _ (by (try show Ex _ _); repeat (first | (with_reducible exact ex_refl _) | (with_reducible assumption) | (with_reducible refine ex_drewL ?_) | (with_reducible refine ex_appR ?_ _) | (with_reducible refine ex_wx ?_ _) | (with_reducible refine ex_drew ?_) | (with_reducible refine ex_alloc ?_ _)))).mono ?_); rintro e w2 ⟨rfl, X, rfl⟩)
        refine wp_region_seqA ((w.alloc (.cells #[I 0, I 0, .slice pa 0 pc, .slice qa 0 qc] 65))) [(1, true), (2, true), (3, true), (4, true), (0, false), (5, false), (6, true)] (by (try show Ex _ _); repeat (first | (with_reducible exact ex_refl _) | (with_reducible assumption) | (with_reducible refine ex_drewL ?_) | (with_reducible refine ex_appR ?_ _) | (with_reducible refine ex_wx ?_ _) | (with_reducible refine ex_drew ?_) | (with_reducible refine ex_alloc ?_ _))) (by kernel_rfl) (by kernel_rfl) (fun _ _ d _ _ h => by cases d <;> exact h) ?_
        simp only [List.map_cons, List.map_nil, nth]
        repeat (first | ((with_reducible refine wpSeq_look ?_); go_big_quiet_step (fail); (with_reducible refine wpQuiet_nil ?_)) | ((with_reducible refine wpSeq_effF ?_ ?_); (focus rfl); go_simp) | ((with_reducible refine wpSeq_eff ?_ ?_); (focus rfl); (try dsimp only); go_wp2_with ((go_at_call 43; (with_reducible refine (HR0.out _).mono ?_); rintro e w3 ⟨rfl, X3, rfl⟩)); refine mixQ_mk (by (try show Ex _ _); repeat (first | (with_reducible exact ex_refl _) | (with_reducible assumption) | (with_reducible refine ex_drewL ?_) | (with_reducible refine ex_appR ?_ _) | (with_reducible refine ex_wx ?_ _) | (with_reducible refine ex_drew ?_) | (with_reducible refine ex_alloc ?_ _))) ?_))
        refine wpSeq_nil ?_
        go_wp2
        exact ret_rowV (cs := rowB 32 (dF R)) (v := .bool true) Tryd.results48 Tryd.underlying26 rfl info_id rfl (by simp [go_sem] <;> first | (intros; exfalso; omega) | (repeat (first | rw [if_pos (by omega)] | rw [if_neg (by omega)]))) rfl rfl ⟨R, rfl, fun x hx => by (cases hx; rfl), (by (try show Ex _ _); repeat (first | (with_reducible exact ex_refl _) | (with_reducible assumption) | (with_reducible refine ex_drewL ?_) | (with_reducible refine ex_appR ?_ _) | (with_reducible refine ex_wx ?_ _) | (with_reducible refine ex_drew ?_) | (with_reducible refine ex_alloc ?_ _)))⟩
      · rw [hx false (decide_eq_false hq0)]
        have z1 : ((qs.length : Int) == 0) = false := beq_eq_false_iff_ne.2 (by omega)
        generalize qs.length = L2 at *
        clear hx hok o1 o2 o3 o4 o5 o6 hps hqs hq0
        go_enter Tryd.func48, Tryd.ntmps48
        go_wp2_with (go_at_call 42; (with_reducible refine (HRg.out _ (by (try show Ex _ _); repeat (first | (with_reducible exact ex_refl _) | (with_reducible assumption) | (with_reducible refine ex_drewL ?_) | (with_reducible refine ex_appR ?_ _) | (with_reducible refine ex_wx ?_ _) | (with_reducible refine ex_drew ?_) | (with_reducible refine ex_alloc ?_ _)))).mono ?_); rintro e w2 ⟨rfl, X, rfl⟩)
        refine wp_region_seqA ((w.alloc (.cells #[I 0, I 0, .slice pa 0 pc, .slice qa L2 qc] 65))) [(1, true), (2, true), (3, true), (4, true), (0, false), (5, false), (6, true)] (by (try show Ex _ _); repeat (first | (with_reducible exact ex_refl _) | (with_reducible assumption) | (with_reducible refine ex_drewL ?_) | (with_reducible refine ex_appR ?_ _) | (with_reducible refine ex_wx ?_ _) | (with_reducible refine ex_drew ?_) | (with_reducible refine ex_alloc ?_ _))) (by kernel_rfl) (by kernel_rfl) (fun _ _ d _ _ h => by cases d <;> exact h) ?_
        simp only [List.map_cons, List.map_nil, nth]
        repeat (first | ((with_reducible refine wpSeq_look ?_); go_big_quiet_step (fail); (with_reducible refine wpQuiet_nil ?_)) | ((with_reducible refine wpSeq_effF ?_ ?_); (focus rfl); go_simp) | ((with_reducible refine wpSeq_eff ?_ ?_); (focus rfl); (try dsimp only); go_wp2_with ((go_at_call 43; (with_reducible refine (HR0.out _).mono ?_); rintro e w3 ⟨rfl, X3, rfl⟩)); refine mixQ_mk (by (try show Ex _ _); repeat (first | (with_reducible exact ex_refl _) | (with_reducible assumption) | (with_reducible refine ex_drewL ?_) | (with_reducible refine ex_appR ?_ _) | (with_reducible refine ex_wx ?_ _) | (with_reducible refine ex_drew ?_) | (with_reducible refine ex_alloc ?_ _))) ?_))
        refine wpSeq_nil ?_
        go_wp2
        exact ret_rowV (cs := rowB 32 (dF R)) (v := .bool false) Tryd.results48 Tryd.underlying26 rfl info_id rfl (by simp [go_sem] <;> first | (intros; exfalso; omega) | (repeat (first | rw [if_pos (by omega)] | rw [if_neg (by omega)]))) rfl rfl ⟨R, rfl, fun x hx => by (cases hx), (by (try show Ex _ _); repeat (first | (with_reducible exact ex_refl _) | (with_reducible assumption) | (with_reducible refine ex_drewL ?_) | (with_reducible refine ex_appR ?_ _) | (with_reducible refine ex_wx ?_ _) | (with_reducible refine ex_drew ?_) | (with_reducible refine ex_alloc ?_ _)))⟩
    · have v0 : ((T : Int) == 0) = false := beq_eq_false_iff_ne.2 (by omega)
      by_cases hl0 : ps.length = 0
      · have hx : topS (T : Int) (F : Int) ps qs = none := by unfold topS; rw [if_pos hok, if_neg (by omega), if_pos hl0]
        rw [hx]
        rw [hl0] at HRg c5t c5u c6t c6u ⊢
        generalize qs.length = L2 at *
        have v1 : ((0 : Int) == 0) = true := rfl
        have c6v : decide ((T : Int) < F) = false := decide_eq_false (by omega)
        have c6w : decide (T < F) = false := decide_eq_false (by omega)
        rw [hl0] at o4 o5
        clear hx hok o6 hps hqs h0
        go_enter Tryd.func48, Tryd.ntmps48
        go_wp2_with (go_at_call 42; (with_reducible refine (HRg.out _ (by (try show Ex _ _); repeat (first | (with_reducible exact ex_refl _) | (with_reducible assumption) | (with_reducible refine ex_drewL ?_) | (with_reducible refine ex_appR ?_ _) | (with_reducible refine ex_wx ?_ _) | (with_reducible refine ex_drew ?_) | (with_reducible refine ex_alloc ?_ _)))).mono ?_); rintro e w2 ⟨rfl, X, rfl⟩)
        exact ret_rowV (cs := rowB 32 fun _ => 0) (v := .bool false) Tryd.results48 Tryd.underlying26 rfl info_id rfl (by simp [go_sem] <;> first | (intros; exfalso; omega) | (repeat (first | rw [if_pos (by omega)] | rw [if_neg (by omega)]))) rfl rfl ⟨zeroD, by rw [row_zero]; rfl, fun x hx => by (cases hx), (by (try show Ex _ _); repeat (first | (with_reducible exact ex_refl _) | (with_reducible assumption) | (with_reducible refine ex_drewL ?_) | (with_reducible refine ex_appR ?_ _) | (with_reducible refine ex_wx ?_ _) | (with_reducible refine ex_drew ?_) | (with_reducible refine ex_alloc ?_ _)))⟩
      · have v1 : ((ps.length : Int) == 0) = false := beq_eq_false_iff_ne.2 (by omega)
        rw [topS_doc hok h0 hl0]
        have HTp : Hid (∀ w', Ex w w' → Calls Tryd.prog 81 #[.agg #[I T, I F, .slice pa ps.length pc, .slice qa qs.length qc], I 0, I T, .slice qa qs.length qc] w' (PostTp w (topR ps F 0 T qs) w')) := Lib.hid fun w' k =>
          doctop_any ps F T pa qa pc qs.length qc hpc hpm (right_small o6) (by omega) T 0 qs qa qc w' (by omega) (by omega) hqc hqm k hps hqs
        cases hx : topR ps F 0 T qs with
        | none =>
          rw [hx] at HTp
          have HTn := Lib.hid (fun w' k => (HTp.out w' k).mono fun e w2 => postTp_none)
          generalize ps.length = L at *
          generalize qs.length = L2 at *
          simp only
          clear hx hok o6 hps hqs h0 hl0 HTp
          go_enter Tryd.func48, Tryd.ntmps48
          go_wp2_with (first | (go_at_call 42; (with_reducible refine (HRg.out _ (by (try show Ex _ _); repeat (first | (with_reducible exact ex_refl _) | (with_reducible assumption) | (with_reducible refine ex_drewL ?_) | (with_reducible refine ex_appR ?_ _) | (with_reducible refine ex_wx ?_ _) | (with_reducible refine ex_drew ?_) | (with_reducible refine ex_alloc ?_ _)))).mono ?_); rintro e w2 ⟨rfl, X, rfl⟩) | (go_at_call 81; (with_reducible refine (HTn.out _ (by (try show Ex _ _); repeat (first | (with_reducible exact ex_refl _) | (with_reducible assumption) | (with_reducible refine ex_drewL ?_) | (with_reducible refine ex_appR ?_ _) | (with_reducible refine ex_wx ?_ _) | (with_reducible refine ex_drew ?_) | (with_reducible refine ex_alloc ?_ _)))).mono ?_); rintro e w2 ⟨d1, n1, q1, a1, c1, rfl, ⟨u1, u2, u3, u4⟩, X1, rfl⟩; replace u4 := Lib.hid u4))
          exact ret_rowV (cs := rowB 32 fun _ => 0) (v := .bool false) Tryd.results48 Tryd.underlying26 rfl info_id rfl (by simp [go_sem] <;> first | (intros; exfalso; omega) | (repeat (first | rw [if_pos (by omega)] | rw [if_neg (by omega)]))) rfl rfl ⟨zeroD, by rw [row_zero]; rfl, fun x hx => by (cases hx), (by (try show Ex _ _); repeat (first | (with_reducible exact ex_refl _) | (with_reducible assumption) | (with_reducible refine ex_drewL ?_) | (with_reducible refine ex_appR ?_ _) | (with_reducible refine ex_wx ?_ _) | (with_reducible refine ex_drew ?_) | (with_reducible refine ex_alloc ?_ _)))⟩
        | some y =>
          obtain ⟨d0, q0⟩ := y
          rw [hx] at HTp
          cases q0 with
          | nil =>
            have HTs := Lib.hid (fun w' k => (HTp.out w' k).mono fun e w2 => postTp_some (n := 0) rfl)
            have HKr := Lib.hid (fun w' => refcrown_any T d0 w')
            have S2 : Hid (sumD ([2] ++ hiL ((T : Int) % 4294967296).toNat 4 ++ bytesD d0) = crownD T d0 ∧ ([2] ++ hiL ((T : Int) % 4294967296).toNat 4 ++ bytesD d0).length ≤ 1000000) := Lib.hid ⟨rfl, by simp [bytesD_len, hiL_len]⟩
            generalize [2] ++ hiL ((T : Int) % 4294967296).toNat 4 ++ bytesD d0 = lc at HKr S2
            simp only
            generalize crownD T d0 = z at S2 ⊢
            generalize ps.length = L at *
            generalize qs.length = L2 at *
            clear hx hok o6 hps hqs h0 hl0 HTp
            go_enter Tryd.func48, Tryd.ntmps48
            go_wp2_with (first | (go_at_call 42; (with_reducible refine (HRg.out _ (by (try show Ex _ _); repeat (first | (with_reducible exact ex_refl _) | (with_reducible assumption) | (with_reducible refine ex_drewL ?_) | (with_reducible refine ex_appR ?_ _) | (with_reducible refine ex_wx ?_ _) | (with_reducible refine ex_drew ?_) | (with_reducible refine ex_alloc ?_ _)))).mono ?_); rintro e w2 ⟨rfl, X, rfl⟩) | (go_at_call 81; (with_reducible refine (HTs.out _ (by (try show Ex _ _); repeat (first | (with_reducible exact ex_refl _) | (with_reducible assumption) | (with_reducible refine ex_drewL ?_) | (with_reducible refine ex_appR ?_ _) | (with_reducible refine ex_wx ?_ _) | (with_reducible refine ex_drew ?_) | (with_reducible refine ex_alloc ?_ _)))).mono ?_); rintro e w2 ⟨a1, c1, rfl, ⟨u1, u2, u3⟩, X1, rfl⟩; clear u3) | (go_at_call 58; (with_reducible refine (HKr.out _).mono ?_); rintro e w4 ⟨v4, rfl, hs4, X4, rfl⟩; (try simp only [wx_wx, wx_drew] at hs4); replace hs4 := Lib.hid hs4) | (go_at_call 53; refine (refsum_slt (hs4.out.ex (by (try show Ex _ _); repeat (first | (with_reducible exact ex_refl _) | (with_reducible assumption) | (with_reducible refine ex_drewL ?_) | (with_reducible refine ex_appR ?_ _) | (with_reducible refine ex_wx ?_ _) | (with_reducible refine ex_drew ?_) | (with_reducible refine ex_alloc ?_ _)))).slt (by have := S2.out.2; omega)).mono ?_; rintro e w5 ⟨rfl, X5, rfl⟩; (try rw [S2.out.1]); clear hs4))
            exact ret_rowV (cs := rowB 32 (dF z)) (v := .bool true) Tryd.results48 Tryd.underlying26 rfl info_id rfl (by simp [go_sem] <;> first | (intros; exfalso; omega) | (repeat (first | rw [if_pos (by omega)] | rw [if_neg (by omega)]))) rfl rfl ⟨z, rfl, fun x hx => by (cases hx; rfl), (by (try show Ex _ _); repeat (first | (with_reducible exact ex_refl _) | (with_reducible assumption) | (with_reducible refine ex_drewL ?_) | (with_reducible refine ex_appR ?_ _) | (with_reducible refine ex_wx ?_ _) | (with_reducible refine ex_drew ?_) | (with_reducible refine ex_alloc ?_ _)))⟩
          | cons e0 q0 =>
            have HTs := Lib.hid (fun w' k => (HTp.out w' k).mono fun e w2 => postTp_some (n := q0.length + 1) rfl)
            simp only
            generalize ps.length = L at *
            generalize qs.length = L2 at *
            generalize q0.length = Lq at *
            have v2 : decide ((0 : Int) < (Lq + 1 : Nat)) = true := decide_eq_true (by omega)
            have v3 : decide ((0 : Int) < (Lq : Int) + 1) = true := decide_eq_true (by omega)
            have v4 : decide (0 < Lq + 1) = true := decide_eq_true (by omega)
            clear hx hok o6 hps hqs h0 hl0 HTp
            go_enter Tryd.func48, Tryd.ntmps48
            go_wp2_with (first | (go_at_call 42; (with_reducible refine (HRg.out _ (by (try show Ex _ _); repeat (first | (with_reducible exact ex_refl _) | (with_reducible assumption) | (with_reducible refine ex_drewL ?_) | (with_reducible refine ex_appR ?_ _) | (with_reducible refine ex_wx ?_ _) | (with_reducible refine ex_drew ?_) | (with_reducible refine ex_alloc ?_ _)))).mono ?_); rintro e w2 ⟨rfl, X, rfl⟩) | (go_at_call 81; (with_reducible refine (HTs.out _ (by (try show Ex _ _); repeat (first | (with_reducible exact ex_refl _) | (with_reducible assumption) | (with_reducible refine ex_drewL ?_) | (with_reducible refine ex_appR ?_ _) | (with_reducible refine ex_wx ?_ _) | (with_reducible refine ex_drew ?_) | (with_reducible refine ex_alloc ?_ _)))).mono ?_); rintro e w2 ⟨a1, c1, rfl, ⟨u1, u2, u3⟩, X1, rfl⟩; clear u3))
            exact ret_rowV (cs := rowB 32 fun _ => 0) (v := .bool false) Tryd.results48 Tryd.underlying26 rfl info_id rfl (by simp [go_sem] <;> first | (intros; exfalso; omega) | (repeat (first | rw [if_pos (by omega)] | rw [if_neg (by omega)]))) rfl rfl ⟨zeroD, by rw [row_zero]; rfl, fun x hx => by (cases hx), (by (try show Ex _ _); repeat (first | (with_reducible exact ex_refl _) | (with_reducible assumption) | (with_reducible refine ex_drewL ?_) | (with_reducible refine ex_appR ?_ _) | (with_reducible refine ex_wx ?_ _) | (with_reducible refine ex_drew ?_) | (with_reducible refine ex_alloc ?_ _)))⟩
  · have hx : topS t f ps qs = none := by unfold topS; rw [if_neg hok]
    rw [hx]
    unfold okS at hok
    obtain ⟨rb, hrb⟩ : ∃ rb, rightP ps = rb := ⟨_, rfl⟩
    rw [hrb] at HRg hok
    generalize ps.length = L at *
    generalize qs.length = L2 at *
    clear hps hqs hx hrb
    by_cases c1 : t < 0
    · have c1t := decide_eq_true c1
      clear hok
      go_enter Tryd.func48, Tryd.ntmps48
      go_wp2_with (go_at_call 42; (with_reducible refine (HRg.out _ (by (try show Ex _ _); repeat (first | (with_reducible exact ex_refl _) | (with_reducible assumption) | (with_reducible refine ex_drewL ?_) | (with_reducible refine ex_appR ?_ _) | (with_reducible refine ex_wx ?_ _) | (with_reducible refine ex_drew ?_) | (with_reducible refine ex_alloc ?_ _)))).mono ?_); rintro e w2 ⟨rfl, X, rfl⟩)
      exact ret_rowV (cs := rowB 32 fun _ => 0) (v := .bool false) Tryd.results48 Tryd.underlying26 rfl info_id rfl (by simp [go_sem] <;> first | (intros; exfalso; omega) | (repeat (first | rw [if_pos (by omega)] | rw [if_neg (by omega)]))) rfl rfl ⟨zeroD, by rw [row_zero]; rfl, fun x hx => by (cases hx), (by (try show Ex _ _); repeat (first | (with_reducible exact ex_refl _) | (with_reducible assumption) | (with_reducible refine ex_drewL ?_) | (with_reducible refine ex_appR ?_ _) | (with_reducible refine ex_wx ?_ _) | (with_reducible refine ex_drew ?_) | (with_reducible refine ex_alloc ?_ _)))⟩
    · have c1t := decide_eq_false c1
      by_cases c2 : 200 < t
      · have c2t := decide_eq_true c2
        clear hok
        go_enter Tryd.func48, Tryd.ntmps48
        go_wp2_with (go_at_call 42; (with_reducible refine (HRg.out _ (by (try show Ex _ _); repeat (first | (with_reducible exact ex_refl _) | (with_reducible assumption) | (with_reducible refine ex_drewL ?_) | (with_reducible refine ex_appR ?_ _) | (with_reducible refine ex_wx ?_ _) | (with_reducible refine ex_drew ?_) | (with_reducible refine ex_alloc ?_ _)))).mono ?_); rintro e w2 ⟨rfl, X, rfl⟩)
        exact ret_rowV (cs := rowB 32 fun _ => 0) (v := .bool false) Tryd.results48 Tryd.underlying26 rfl info_id rfl (by simp [go_sem] <;> first | (intros; exfalso; omega) | (repeat (first | rw [if_pos (by omega)] | rw [if_neg (by omega)]))) rfl rfl ⟨zeroD, by rw [row_zero]; rfl, fun x hx => by (cases hx), (by (try show Ex _ _); repeat (first | (with_reducible exact ex_refl _) | (with_reducible assumption) | (with_reducible refine ex_drewL ?_) | (with_reducible refine ex_appR ?_ _) | (with_reducible refine ex_wx ?_ _) | (with_reducible refine ex_drew ?_) | (with_reducible refine ex_alloc ?_ _)))⟩
      · have c2t := decide_eq_false c2
        by_cases c3 : f < 0
        · have c3t := decide_eq_true c3
          clear hok
          go_enter Tryd.func48, Tryd.ntmps48
          go_wp2_with (go_at_call 42; (with_reducible refine (HRg.out _ (by (try show Ex _ _); repeat (first | (with_reducible exact ex_refl _) | (with_reducible assumption) | (with_reducible refine ex_drewL ?_) | (with_reducible refine ex_appR ?_ _) | (with_reducible refine ex_wx ?_ _) | (with_reducible refine ex_drew ?_) | (with_reducible refine ex_alloc ?_ _)))).mono ?_); rintro e w2 ⟨rfl, X, rfl⟩)
          exact ret_rowV (cs := rowB 32 fun _ => 0) (v := .bool false) Tryd.results48 Tryd.underlying26 rfl info_id rfl (by simp [go_sem] <;> first | (intros; exfalso; omega) | (repeat (first | rw [if_pos (by omega)] | rw [if_neg (by omega)]))) rfl rfl ⟨zeroD, by rw [row_zero]; rfl, fun x hx => by (cases hx), (by (try show Ex _ _); repeat (first | (with_reducible exact ex_refl _) | (with_reducible assumption) | (with_reducible refine ex_drewL ?_) | (with_reducible refine ex_appR ?_ _) | (with_reducible refine ex_wx ?_ _) | (with_reducible refine ex_drew ?_) | (with_reducible refine ex_alloc ?_ _)))⟩
        · have c3t := decide_eq_false c3
          by_cases c4 : 200 < f
          · have c4t := decide_eq_true c4
            clear hok
            go_enter Tryd.func48, Tryd.ntmps48
            go_wp2_with (go_at_call 42; (with_reducible refine (HRg.out _ (by (try show Ex _ _); repeat (first | (with_reducible exact ex_refl _) | (with_reducible assumption) | (with_reducible refine ex_drewL ?_) | (with_reducible refine ex_appR ?_ _) | (with_reducible refine ex_wx ?_ _) | (with_reducible refine ex_drew ?_) | (with_reducible refine ex_alloc ?_ _)))).mono ?_); rintro e w2 ⟨rfl, X, rfl⟩)
            exact ret_rowV (cs := rowB 32 fun _ => 0) (v := .bool false) Tryd.results48 Tryd.underlying26 rfl info_id rfl (by simp [go_sem] <;> first | (intros; exfalso; omega) | (repeat (first | rw [if_pos (by omega)] | rw [if_neg (by omega)]))) rfl rfl ⟨zeroD, by rw [row_zero]; rfl, fun x hx => by (cases hx), (by (try show Ex _ _); repeat (first | (with_reducible exact ex_refl _) | (with_reducible assumption) | (with_reducible refine ex_drewL ?_) | (with_reducible refine ex_appR ?_ _) | (with_reducible refine ex_wx ?_ _) | (with_reducible refine ex_drew ?_) | (with_reducible refine ex_alloc ?_ _)))⟩
          · have c4t := decide_eq_false c4
            by_cases c5 : 200 < L
            · have c5t := decide_eq_true (show (200 : Int) < L by omega)
              have c5u := decide_eq_true c5
              clear hok
              go_enter Tryd.func48, Tryd.ntmps48
              go_wp2_with (go_at_call 42; (with_reducible refine (HRg.out _ (by (try show Ex _ _); repeat (first | (with_reducible exact ex_refl _) | (with_reducible assumption) | (with_reducible refine ex_drewL ?_) | (with_reducible refine ex_appR ?_ _) | (with_reducible refine ex_wx ?_ _) | (with_reducible refine ex_drew ?_) | (with_reducible refine ex_alloc ?_ _)))).mono ?_); rintro e w2 ⟨rfl, X, rfl⟩)
              exact ret_rowV (cs := rowB 32 fun _ => 0) (v := .bool false) Tryd.results48 Tryd.underlying26 rfl info_id rfl (by simp [go_sem] <;> first | (intros; exfalso; omega) | (repeat (first | rw [if_pos (by omega)] | rw [if_neg (by omega)]))) rfl rfl ⟨zeroD, by rw [row_zero]; rfl, fun x hx => by (cases hx), (by (try show Ex _ _); repeat (first | (with_reducible exact ex_refl _) | (with_reducible assumption) | (with_reducible refine ex_drewL ?_) | (with_reducible refine ex_appR ?_ _) | (with_reducible refine ex_wx ?_ _) | (with_reducible refine ex_drew ?_) | (with_reducible refine ex_alloc ?_ _)))⟩
            · have c5t := decide_eq_false (show ¬ (200 : Int) < L by omega)
              have c5u := decide_eq_false c5
              by_cases c6 : t < f + L
              · have c6t := decide_eq_true c6
                clear hok
                go_enter Tryd.func48, Tryd.ntmps48
                go_wp2_with (go_at_call 42; (with_reducible refine (HRg.out _ (by (try show Ex _ _); repeat (first | (with_reducible exact ex_refl _) | (with_reducible assumption) | (with_reducible refine ex_drewL ?_) | (with_reducible refine ex_appR ?_ _) | (with_reducible refine ex_wx ?_ _) | (with_reducible refine ex_drew ?_) | (with_reducible refine ex_alloc ?_ _)))).mono ?_); rintro e w2 ⟨rfl, X, rfl⟩)
                exact ret_rowV (cs := rowB 32 fun _ => 0) (v := .bool false) Tryd.results48 Tryd.underlying26 rfl info_id rfl (by simp [go_sem] <;> first | (intros; exfalso; omega) | (repeat (first | rw [if_pos (by omega)] | rw [if_neg (by omega)]))) rfl rfl ⟨zeroD, by rw [row_zero]; rfl, fun x hx => by (cases hx), (by (try show Ex _ _); repeat (first | (with_reducible exact ex_refl _) | (with_reducible assumption) | (with_reducible refine ex_drewL ?_) | (with_reducible refine ex_appR ?_ _) | (with_reducible refine ex_wx ?_ _) | (with_reducible refine ex_drew ?_) | (with_reducible refine ex_alloc ?_ _)))⟩
              · have c6t := decide_eq_false c6
                cases rb with
                | true => exact absurd ⟨by omega, by omega, by omega, by omega, by omega, rfl⟩ hok
                | false =>
                  clear hok
                  go_enter Tryd.func48, Tryd.ntmps48
                  go_wp2_with (go_at_call 42; (with_reducible refine (HRg.out _ (by (try show Ex _ _); repeat (first | (with_reducible exact ex_refl _) | (with_reducible assumption) | (with_reducible refine ex_drewL ?_) | (with_reducible refine ex_appR ?_ _) | (with_reducible refine ex_wx ?_ _) | (with_reducible refine ex_drew ?_) | (with_reducible refine ex_alloc ?_ _)))).mono ?_); rintro e w2 ⟨rfl, X, rfl⟩)
                  exact ret_rowV (cs := rowB 32 fun _ => 0) (v := .bool false) Tryd.results48 Tryd.underlying26 rfl info_id rfl (by simp [go_sem] <;> first | (intros; exfalso; omega) | (repeat (first | rw [if_pos (by omega)] | rw [if_neg (by omega)]))) rfl rfl ⟨zeroD, by rw [row_zero]; rfl, fun x hx => by (cases hx), (by (try show Ex _ _); repeat (first | (with_reducible exact ex_refl _) | (with_reducible assumption) | (with_reducible refine ex_drewL ?_) | (with_reducible refine ex_appR ?_ _) | (with_reducible refine ex_wx ?_ _) | (with_reducible refine ex_drew ?_) | (with_reducible refine ex_alloc ?_ _)))⟩
end Go.Proofs.YtbobamifpjlmiaaDoor
