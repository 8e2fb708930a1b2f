/- BlakeDigits: what it does. -/
import Derived.Test.YtbebehcalephfaaDoorLaws1
import Derived.Test.YtbebehcalephfaaDoorDigS
set_option linter.unusedSimpArgs false
set_option linter.unusedVariables false
set_option maxRecDepth 20000
namespace Go.Proofs.YtbebehcalephfaaDoor
open Go.RowKit
theorem textK_front (f : Nat → UInt8) (n : Nat) : textK f (n + 1) = dig ((f 0).toNat / 16) :: dig ((f 0).toNat % 16) :: textK (fun i => f (i + 1)) n := by
  induction n with
  | zero => rfl
  | succ n ih => rw [textK, ih]; rfl
theorem dig_lt (a b : Nat) (ha : a < 16) (hb : b < 16) : decide (dig a < dig b) = decide (a < b) :=
  (by decide +kernel : ∀ a b : Fin 16, decide (dig a.val < dig b.val) = decide (a.val < b.val)) ⟨a, ha⟩ ⟨b, hb⟩
theorem dig_eq (a b : Nat) (ha : a < 16) (hb : b < 16) : (dig a == dig b) = decide (a = b) :=
  (by decide +kernel : ∀ a b : Fin 16, (dig a.val == dig b.val) = decide (a.val = b.val)) ⟨a, ha⟩ ⟨b, hb⟩
theorem bytesLess_textK : ∀ (n : Nat) (f g : Nat → UInt8), Op.bytesLess (textK f n) (textK g n) = ltN f g n
  | 0, f, g => rfl
  | n + 1, f, g => by
    rw [textK_front, textK_front]
    have ha := (f 0).toNat_lt
    have hb := (g 0).toNat_lt
    simp only [Op.bytesLess, ltN]
    rw [dig_lt _ _ (by omega) (by omega), dig_lt _ _ (by omega) (by omega), dig_eq _ _ (by omega) (by omega), dig_eq _ _ (by omega) (by omega), bytesLess_textK n]
    by_cases h : f 0 = g 0
    · rw [if_pos h, h]; simp
    · rw [if_neg h]
      have hne : (f 0).toNat ≠ (g 0).toNat := fun e => h (UInt8.toNat_inj.1 e)
      have hlt : (f 0 < g 0) = ((f 0).toNat < (g 0).toNat) := propext UInt8.lt_iff_toNat_lt
      by_cases h1 : (f 0).toNat / 16 < (g 0).toNat / 16
      · rw [decide_eq_true h1, decide_eq_true (p := f 0 < g 0) (by rw [hlt]; omega), Bool.true_or]
      · rw [decide_eq_false h1, Bool.false_or]
        by_cases h2 : (f 0).toNat / 16 = (g 0).toNat / 16
        · rw [decide_eq_true h2, Bool.true_and]
          by_cases h3 : (f 0).toNat % 16 < (g 0).toNat % 16
          · rw [decide_eq_true h3, decide_eq_true (p := f 0 < g 0) (by rw [hlt]; omega), Bool.true_or]
          · rw [decide_eq_false h3, Bool.false_or, decide_eq_false (by omega), Bool.false_and, decide_eq_false (by rw [hlt]; omega)]
        · rw [decide_eq_false h2, Bool.false_and, decide_eq_false (by rw [hlt]; omega)]
theorem bytesLess_text (f g : Nat → UInt8) : Op.bytesLess (textS f).toList (textS g).toList = ltN f g 32 := by
  rw [ByteArray.toList_eq, ByteArray.toList_eq]
  unfold textS
  exact bytesLess_textK 32 f g
theorem textS_any (f : Nat → UInt8) (w : World) : Calls Tryd.prog 25 #[.agg (rowB 32 f)] w (Post w (.string (textS f))) := text_any f w
theorem text_parsed (s : ByteArray) (h : okS s) (w : World) : Calls Tryd.prog 25 #[.agg (rowB 32 (parF s))] w (Post w (.string s)) := by
  have := textS_any (parF s) w
  rwa [text_parF s h] at this
theorem parse_text (f : Nat → UInt8) (w : World) : Calls Tryd.prog 29 #[.string (textS f)] w (Post w (.tuple #[.agg (rowB 32 f), I 0])) := by
  have h := parse_any (textS f) (by rw [textS_size]; decide) w
  rw [show parseV (textS f) = _ from if_pos (okS_text f), rowB_congr (parF_text f)] at h
  exact h
theorem parse_ok (s : ByteArray) (h : okS s) (hs : s.size ≤ maxLen) (w : World) : Calls Tryd.prog 29 #[.string s] w (Post w (.tuple #[.agg (rowB 32 (parF s)), I 0])) := by
  have := parse_any s hs w
  rwa [show parseV s = _ from if_pos h] at this
theorem parse_no (s : ByteArray) (h : ¬ okS s) (hs : s.size ≤ maxLen) (w : World) : Calls Tryd.prog 29 #[.string s] w (Post w (.tuple #[.agg (rowB 32 fun _ => 0), I 130])) := by
  have := parse_any s hs w
  rwa [show parseV s = _ from if_neg h] at this
set_option maxHeartbeats 4000000 in
theorem digits_yes (fa fb : Nat → UInt8) (s : ByteArray) (hs : s.size ≤ maxLen) (hok : okS s) (w : World) (G : Glob w) :
    Calls Tryd.prog 9 #[.agg (rowB 32 fa), .agg (rowB 32 fb), .string s] w (Post w (.bool true)) := by
  have hz := textS_size fa
  have hb : Op.bytesLess (textS fa).toList (textS fb).toList = ltN fa fb 32 := bytesLess_text fa fb
  rcases trich fa fb 32 with ⟨t1, t2, t3⟩ | ⟨t1, t2, t3⟩ | ⟨t1, t2, t3⟩
  all_goals
    rw [t2] at hb
    go_enter Tryd.func9, Tryd.ntmps9
    go_wp2_with (first | (go_at_call 10; refine (wakes_any _ (G.ex (by repeat (first | exact ex_refl _ | refine ex_appR ?_ _ | refine ex_wx ?_ _ | refine ex_drew ?_ | refine ex_alloc ?_ _)))).mono ?_; rintro e w' ⟨rfl, X, rfl⟩) | (go_at_call 25; first | ((with_reducible refine (textS_any fa _).mono ?_); rintro e w' ⟨rfl, X, rfl⟩) | ((with_reducible refine (text_parsed s hok _).mono ?_); rintro e w' ⟨rfl, X, rfl⟩)) | (go_at_call 29; first | ((with_reducible refine (parse_text fa _).mono ?_); rintro e w' ⟨rfl, X, rfl⟩) | ((with_reducible refine (parse_ok s hok hs _).mono ?_); rintro e w' ⟨rfl, X, rfl⟩)))
    refine wp_region_mix [(0, true), (1, true), (3, true), (4, true), (2, false), (5, false), (6, true), (7, true)] 8 (by kernel_rfl) (by kernel_rfl) (fun _ _ d _ _ h => by cases d <;> exact h) ?_
    simp only [List.map_cons, List.map_nil, nth, List.drop_succ_cons, List.drop_zero]
    repeat (first | (refine wpMix_look ?_; go_big_quiet_step (fail); refine wpQuiet_nil ?_) | (refine wpMix_eff rfl (fun X1 => ?_); go_wp2_with ((go_at_call 27; refine (less_any _ _ _).mono ?_; rintro e w' ⟨rfl, X, rfl⟩)); refine mixQ_mk (by first | exact ex_refl _ | exact ⟨_, rfl⟩ | exact ex_app _ _ _ | (simp only [wx_wx, wx_drew]; first | exact ex_refl _ | exact ex_app _ _ _ | exact ⟨_, rfl⟩) | (repeat (first | exact ex_refl _ | refine ex_drew ?_ | refine ex_alloc ?_ _ | refine ex_wx ?_ _))) ?_))
    refine wpMix_nil (fun X2 => ?_)
    go_wp2_with (go_at_call 25; refine (textS_any fb _).mono ?_; rintro e w' ⟨rfl, X, rfl⟩)
    go_ret
    exact post_mk rfl (by repeat (first | exact ex_refl _ | refine ex_appR ?_ _ | refine ex_wx ?_ _ | refine ex_drew ?_ | refine ex_alloc ?_ _))
set_option maxHeartbeats 4000000 in
theorem digits_no (fa fb : Nat → UInt8) (s : ByteArray) (hs : s.size ≤ maxLen) (hok : ¬ okS s) (w : World) (G : Glob w) :
    Calls Tryd.prog 9 #[.agg (rowB 32 fa), .agg (rowB 32 fb), .string s] w (Post w (.bool true)) := by
  have hz := textS_size fa
  have hb : Op.bytesLess (textS fa).toList (textS fb).toList = ltN fa fb 32 := bytesLess_text fa fb
  rcases trich fa fb 32 with ⟨t1, t2, t3⟩ | ⟨t1, t2, t3⟩ | ⟨t1, t2, t3⟩
  all_goals
    rw [t2] at hb
    go_enter Tryd.func9, Tryd.ntmps9
    go_wp2_with (first | (go_at_call 10; refine (wakes_any _ (G.ex (by repeat (first | exact ex_refl _ | refine ex_appR ?_ _ | refine ex_wx ?_ _ | refine ex_drew ?_ | refine ex_alloc ?_ _)))).mono ?_; rintro e w' ⟨rfl, X, rfl⟩) | (go_at_call 25; first | ((with_reducible refine (textS_any fa _).mono ?_); rintro e w' ⟨rfl, X, rfl⟩) | ((with_reducible refine (text_parsed s hok _).mono ?_); rintro e w' ⟨rfl, X, rfl⟩)) | (go_at_call 29; first | ((with_reducible refine (parse_text fa _).mono ?_); rintro e w' ⟨rfl, X, rfl⟩) | ((with_reducible refine (parse_no s hok hs _).mono ?_); rintro e w' ⟨rfl, X, rfl⟩)))
    refine wp_region_mix [(0, true), (1, true), (3, true), (4, true), (2, false), (5, false), (6, true), (7, true)] 8 (by kernel_rfl) (by kernel_rfl) (fun _ _ d _ _ h => by cases d <;> exact h) ?_
    simp only [List.map_cons, List.map_nil, nth, List.drop_succ_cons, List.drop_zero]
    repeat (first | (refine wpMix_look ?_; go_big_quiet_step (fail); refine wpQuiet_nil ?_) | (refine wpMix_eff rfl (fun X1 => ?_); go_wp2_with ((go_at_call 27; refine (less_any _ _ _).mono ?_; rintro e w' ⟨rfl, X, rfl⟩)); refine mixQ_mk (by first | exact ex_refl _ | exact ⟨_, rfl⟩ | exact ex_app _ _ _ | (simp only [wx_wx, wx_drew]; first | exact ex_refl _ | exact ex_app _ _ _ | exact ⟨_, rfl⟩) | (repeat (first | exact ex_refl _ | refine ex_drew ?_ | refine ex_alloc ?_ _ | refine ex_wx ?_ _))) ?_))
    refine wpMix_nil (fun X2 => ?_)
    go_wp2_with (go_at_call 25; refine (textS_any fb _).mono ?_; rintro e w' ⟨rfl, X, rfl⟩)
    go_ret
    exact post_mk rfl (by repeat (first | exact ex_refl _ | refine ex_appR ?_ _ | refine ex_wx ?_ _ | refine ex_drew ?_ | refine ex_alloc ?_ _))
theorem digits_any (fa fb : Nat → UInt8) (s : ByteArray) (hs : s.size ≤ maxLen) (w : World) (G : Glob w) :
    Calls Tryd.prog 9 #[.agg (rowB 32 fa), .agg (rowB 32 fb), .string s] w (Post w (.bool true)) := by
  by_cases h : okS s
  · exact digits_yes fa fb s hs h w G
  · exact digits_no fa fb s hs h w G
end Go.Proofs.YtbebehcalephfaaDoor
