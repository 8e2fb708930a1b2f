/- BlakeMixes: what it does. -/
import Derived.Test.YtbebehcalephfaaDoorBack
import Derived.Test.YtbebehcalephfaaDoorMixO
set_option linter.unusedSimpArgs false
set_option linter.unusedVariables false
set_option maxRecDepth 20000
namespace Go.Proofs.YtbebehcalephfaaDoor
open Go.RowKit Go.ChangeShapes
theorem refmix_row4 (f : Nat → UInt32) (x y : UInt32) (w : World) : Calls Tryd.prog 14 #[.agg (rowU 4 f), U x, U y] w (Post w (.agg (rowU 4 (mixF f x y)))) := refmix_rowed _ _ _ _ x y w
@[go_sem] theorem alloc_zerosU6 (w : World) (t : TypeId) : w.alloc (.cells #[.int .u32 0, .int .u32 0, .int .u32 0, .int .u32 0, .int .u32 0, .int .u32 0] t) = w.alloc (.cells (rowU 6 (fun _ => 0)) t) := rfl
@[go_sem] theorem sb_strD (n : Nat) (p : Nat → Nat) (i : Nat) : sb (strD n p) i = if i < n then dig (p i) else 0 := by
  unfold sb strD
  rw [Array.getD_eq_getD_getElem?]
  simp only [List.getElem?_toArray, List.getElem?_map]
  by_cases h : i < n
  · rw [List.getElem?_range h, if_pos h]; rfl
  · rw [List.getElem?_eq_none (by simp; omega), if_neg h]; rfl
set_option maxHeartbeats 4000000 in
theorem mixes_any (a : Option Addr) (n c : Nat) (E : Nat → (Nat → UInt32)) (w : World) (hn : n ≤ c) (hc : c ≤ maxLen) (hs : SlN w a n 6 (fun i => rowU 6 (E i))) (G : Glob w) :
    Calls Tryd.prog 4 #[.slice a n c] w (Post w (.bool true)) := by
  unfold maxLen at hc
  go_enter Tryd.func4, Tryd.ntmps4
  go_wp2_with (go_at_call 10; refine (wakes_any _ (G.ex (by repeat (first | exact ex_refl _ | refine ex_appR ?_ _ | refine ex_wx ?_ _ | refine ex_drew ?_ | refine ex_alloc ?_ _)))).mono ?_; rintro e w' ⟨rfl, X, rfl⟩)
  go_loopw [13] (fun i wr => ∃ k : Nat, k ≤ n ∧ i = I k ∧ Ex w wr) (fun i _ => n - (intOf i).toNat)
  case atStart => exact ⟨0, by omega, rfl, (by repeat (first | exact ex_refl _ | refine ex_appR ?_ _ | refine ex_wx ?_ _ | refine ex_drew ?_ | refine ex_alloc ?_ _))⟩
  case round =>
    obtain ⟨k, hk, rfl, X0, rfl⟩ := hrel
    by_cases hlt : k < n ∧ k ≠ 20
    · obtain ⟨hlt, h20⟩ := hlt
      have h20' : ((k : Int) == 20) = false := beq_eq_false_iff_ne.2 (by omega)
      obtain ⟨g, off, rfl, hg, hcell⟩ := hs.pos (by omega)
      have h1 := hcell k hlt
      generalize E k = F at h1
      clear hcell h20
      go_wp2
      refine wp_region_mix [(0, true), (1, true), (2, true), (3, true), (4, true), (5, true), (7, true), (8, true), (9, true), (10, true), (11, true), (12, true), (6, false), (13, false), (14, true)] 15 (by kernel_rfl) (by kernel_rfl) (fun _ _ d _ _ h => by cases d <;> exact h) ?_
      simp only [List.map_cons, List.map_nil, nth, List.drop_succ_cons, List.drop_zero]
      repeat (first | (refine wpMix_look ?_; go_big_quiet_step (fail); refine wpQuiet_nil ?_) | (refine wpMix_eff rfl (fun X1 => ?_); go_wp2_with (first | (go_at_call 13; refine (mix_row4 _ _ _ _).mono ?_; rintro e w' ⟨rfl, X, rfl⟩) | (go_at_call 14; refine (refmix_row4 _ _ _ _).mono ?_; rintro e w' ⟨rfl, X, rfl⟩)); refine mixQ_mk (by first | exact ex_refl _ | exact ⟨_, rfl⟩ | exact ex_app _ _ _ | (simp only [wx_wx, wx_drew]; first | exact ex_refl _ | exact ex_app _ _ _ | exact ⟨_, rfl⟩) | (repeat (first | exact ex_refl _ | refine ex_drew ?_ | refine ex_alloc ?_ _ | refine ex_wx ?_ _))) ?_))
      refine wpMix_nil (fun X2 => ?_)
      go_wp2
      exact ⟨⟨k + 1, by omega, by go_num, (by repeat (first | exact ex_refl _ | refine ex_appR ?_ _ | refine ex_wx ?_ _ | refine ex_drew ?_ | refine ex_alloc ?_ _))⟩, by simp [intOf]; omega⟩
    · by_cases hkn : k < n
      · have h20 : k = 20 := by
          rcases Nat.decEq k 20 with h | h
          · exact absurd ⟨hkn, h⟩ hlt
          · exact h
        have h20' : ((k : Int) == 20) = true := by rw [h20]; rfl
        have H20 := Lib.hid h20
        obtain ⟨g, off, rfl, hg, hcell⟩ := hs.pos (by omega)
        have h1 := hcell k hkn
        generalize E k = F at h1
        clear hcell h20 hlt
        go_wp2_with (go_at_call 15; refine (orders_glob G (by repeat (first | exact ex_refl _ | refine ex_appR ?_ _ | refine ex_wx ?_ _ | refine ex_drew ?_ | refine ex_alloc ?_ _))).mono ?_; rintro e w' ⟨rfl, X, rfl⟩)
        go_loopw [37] (fun i wr => ∃ q : Nat, q ≤ 10 ∧ i = I q ∧ Ex w wr) (fun i _ => 10 - (intOf i).toNat)
        case atStart => exact ⟨0, by omega, rfl, (by repeat (first | exact ex_refl _ | refine ex_appR ?_ _ | refine ex_wx ?_ _ | refine ex_drew ?_ | refine ex_alloc ?_ _))⟩
        case round =>
          obtain ⟨q, hq, rfl, X1, rfl⟩ := hrel
          by_cases hlq : q < 10
          · have hlq' : ((q : Nat) : Int) < 10 := by omega
            obtain ⟨s, hs⟩ : ∃ s : Nat → Nat, s = fun j => ordersN.getD (q * 16 + j) 0 := ⟨_, rfl⟩
            have hO : ∀ w, Calls Tryd.prog 17 #[I q] w fun e w' => e = .returned (.string (strD 16 s)) ∧ w = w' := by
              intro w; subst hs; exact order_any q hlq w
            have hsl : ∀ j, s j < 16 := by subst hs; exact fun j => ord_lt _
            have es : shiftF ordersF (q * 16) = natI s := by subst hs; rfl
            have HO := Lib.hid hO
            have HSL := Lib.hid hsl
            have ES := Lib.hid es
            clear hs hO hsl es
            go_wp2
            rw [ES.out]
            go_loopw [42] (fun i wr => ∃ j : Nat, j ≤ 16 ∧ i = I j ∧ Ex w wr) (fun i _ => 16 - (intOf i).toNat)
            case atStart => exact ⟨0, by omega, rfl, (by repeat (first | exact ex_refl _ | refine ex_appR ?_ _ | refine ex_wx ?_ _ | refine ex_drew ?_ | refine ex_alloc ?_ _))⟩
            case round =>
              obtain ⟨j, hj, rfl, X2, rfl⟩ := hrel
              by_cases hlj : j < 16
              · have hlj' : ((j : Nat) : Int) < 16 := by omega
                go_wp2_with (first | (go_at_call 17; refine (HO.out _).mono ?_; rintro e w' ⟨rfl, rfl⟩) | (go_at_call 16; (with_reducible refine (digit_place _ (HSL.out _) _).mono ?_); rintro e w' ⟨rfl, rfl⟩))
                exact ⟨⟨j + 1, by omega, by go_num, (by repeat (first | exact ex_refl _ | refine ex_appR ?_ _ | refine ex_wx ?_ _ | refine ex_drew ?_ | refine ex_alloc ?_ _))⟩, by simp [intOf]; omega⟩
              · obtain rfl : j = 16 := by omega
                clear hlj hj
                go_wp2
                exact ⟨⟨q + 1, by omega, by go_num, (by repeat (first | exact ex_refl _ | refine ex_appR ?_ _ | refine ex_wx ?_ _ | refine ex_drew ?_ | refine ex_alloc ?_ _))⟩, by simp [intOf]; omega⟩
          · obtain rfl : q = 10 := by omega
            clear hlq hq
            go_wp2_with (first | (go_at_call 18; refine (start_glob G (by repeat (first | exact ex_refl _ | refine ex_appR ?_ _ | refine ex_wx ?_ _ | refine ex_drew ?_ | refine ex_alloc ?_ _))).mono ?_; rintro e w' ⟨rfl, X, rfl⟩) | (go_at_call 19; refine (refstart_any _).mono ?_; rintro e w' ⟨rfl, X, rfl⟩))
            go_ret
            exact post_mk rfl (by repeat (first | exact ex_refl _ | refine ex_appR ?_ _ | refine ex_wx ?_ _ | refine ex_drew ?_ | refine ex_alloc ?_ _))
      · obtain rfl : k = n := by omega
        clear hlt hkn hk
        go_wp2_with (go_at_call 15; refine (orders_glob G (by repeat (first | exact ex_refl _ | refine ex_appR ?_ _ | refine ex_wx ?_ _ | refine ex_drew ?_ | refine ex_alloc ?_ _))).mono ?_; rintro e w' ⟨rfl, X, rfl⟩)
        go_loopw [37] (fun i wr => ∃ q : Nat, q ≤ 10 ∧ i = I q ∧ Ex w wr) (fun i _ => 10 - (intOf i).toNat)
        case atStart => exact ⟨0, by omega, rfl, (by repeat (first | exact ex_refl _ | refine ex_appR ?_ _ | refine ex_wx ?_ _ | refine ex_drew ?_ | refine ex_alloc ?_ _))⟩
        case round =>
          obtain ⟨q, hq, rfl, X1, rfl⟩ := hrel
          by_cases hlq : q < 10
          · have hlq' : ((q : Nat) : Int) < 10 := by omega
            obtain ⟨s, hs⟩ : ∃ s : Nat → Nat, s = fun j => ordersN.getD (q * 16 + j) 0 := ⟨_, rfl⟩
            have hO : ∀ w, Calls Tryd.prog 17 #[I q] w fun e w' => e = .returned (.string (strD 16 s)) ∧ w = w' := by
              intro w; subst hs; exact order_any q hlq w
            have hsl : ∀ j, s j < 16 := by subst hs; exact fun j => ord_lt _
            have es : shiftF ordersF (q * 16) = natI s := by subst hs; rfl
            have HO := Lib.hid hO
            have HSL := Lib.hid hsl
            have ES := Lib.hid es
            clear hs hO hsl es
            go_wp2
            rw [ES.out]
            go_loopw [42] (fun i wr => ∃ j : Nat, j ≤ 16 ∧ i = I j ∧ Ex w wr) (fun i _ => 16 - (intOf i).toNat)
            case atStart => exact ⟨0, by omega, rfl, (by repeat (first | exact ex_refl _ | refine ex_appR ?_ _ | refine ex_wx ?_ _ | refine ex_drew ?_ | refine ex_alloc ?_ _))⟩
            case round =>
              obtain ⟨j, hj, rfl, X2, rfl⟩ := hrel
              by_cases hlj : j < 16
              · have hlj' : ((j : Nat) : Int) < 16 := by omega
                go_wp2_with (first | (go_at_call 17; refine (HO.out _).mono ?_; rintro e w' ⟨rfl, rfl⟩) | (go_at_call 16; (with_reducible refine (digit_place _ (HSL.out _) _).mono ?_); rintro e w' ⟨rfl, rfl⟩))
                exact ⟨⟨j + 1, by omega, by go_num, (by repeat (first | exact ex_refl _ | refine ex_appR ?_ _ | refine ex_wx ?_ _ | refine ex_drew ?_ | refine ex_alloc ?_ _))⟩, by simp [intOf]; omega⟩
              · obtain rfl : j = 16 := by omega
                clear hlj hj
                go_wp2
                exact ⟨⟨q + 1, by omega, by go_num, (by repeat (first | exact ex_refl _ | refine ex_appR ?_ _ | refine ex_wx ?_ _ | refine ex_drew ?_ | refine ex_alloc ?_ _))⟩, by simp [intOf]; omega⟩
          · obtain rfl : q = 10 := by omega
            clear hlq hq
            go_wp2_with (first | (go_at_call 18; refine (start_glob G (by repeat (first | exact ex_refl _ | refine ex_appR ?_ _ | refine ex_wx ?_ _ | refine ex_drew ?_ | refine ex_alloc ?_ _))).mono ?_; rintro e w' ⟨rfl, X, rfl⟩) | (go_at_call 19; refine (refstart_any _).mono ?_; rintro e w' ⟨rfl, X, rfl⟩))
            go_ret
            exact post_mk rfl (by repeat (first | exact ex_refl _ | refine ex_appR ?_ _ | refine ex_wx ?_ _ | refine ex_drew ?_ | refine ex_alloc ?_ _))
end Go.Proofs.YtbebehcalephfaaDoor
