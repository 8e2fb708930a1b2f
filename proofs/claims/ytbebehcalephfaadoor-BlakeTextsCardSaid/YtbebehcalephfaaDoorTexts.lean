/- BlakeTexts: what it does. -/
import Derived.Test.YtbebehcalephfaaDoorDigits
import Derived.Test.YtbebehcalephfaaDoorOpen
set_option linter.unusedSimpArgs false
set_option linter.unusedVariables false
set_option maxRecDepth 20000
namespace Go.Proofs.YtbebehcalephfaaDoor
open Go.RowKit
theorem reftextS_any (f : Nat → UInt8) (w : World) : Calls Tryd.prog 26 #[.agg (rowB 32 f)] w (Post w (.string (textS f))) := reftext_any f w
theorem refparse_ok (s : ByteArray) (h : okS s) (hs : s.size ≤ maxLen) (w : World) : Calls Tryd.prog 30 #[.string s] w (Post w (.tuple #[.agg (rowB 32 (parF s)), .bool true])) := by
  have := refparse_any s hs w
  rwa [show refparseV s = _ from if_pos h] at this
theorem refparse_no (s : ByteArray) (h : ¬ okS s) (hs : s.size ≤ maxLen) (w : World) : Calls Tryd.prog 30 #[.string s] w (Post w (.tuple #[.agg (rowB 32 fun _ => 0), .bool false])) := by
  have := refparse_any s hs w
  rwa [show refparseV s = _ from if_neg h] at this
set_option maxHeartbeats 4000000 in
theorem texts_any (a : Option Addr) (n c : Nat) (E : Nat → (Nat → UInt8)) (a2 : Option Addr) (n2 c2 : Nat) (E2 : Nat → ByteArray) (w : World) (hn : n ≤ c) (hc : c ≤ maxLen) (hs : SlN w a n 32 (fun i => rowB 32 (E i)))
    (hn2 : n2 ≤ c2) (hc2 : c2 ≤ maxLen) (hs2 : SlV w a2 n2 (fun i => .string (E2 i))) (hz2 : ∀ i, i < n2 → (E2 i).size ≤ maxLen) (G : Glob w) :
    Calls Tryd.prog 8 #[.slice a n c, .slice a2 n2 c2] w (Post w (.bool true)) := by
  unfold maxLen at hc hc2
  have HZ := Lib.hid hz2
  clear hz2
  go_enter Tryd.func8, Tryd.ntmps8
  go_wp2_with (go_at_call 10; refine (wakes_any _ (G.ex (by repeat (first | exact ex_refl _ | refine ex_appR ?_ _ | refine ex_wx ?_ _ | refine ex_drew ?_ | refine ex_alloc ?_ _)))).mono ?_; rintro e w' ⟨rfl, X, rfl⟩)
  go_loopw [17] (fun i wr => ∃ k : Nat, k ≤ n ∧ i = I k ∧ Ex w wr) (fun i _ => n - (intOf i).toNat)
  case atStart => exact ⟨0, by omega, rfl, (by repeat (first | exact ex_refl _ | refine ex_appR ?_ _ | refine ex_wx ?_ _ | refine ex_drew ?_ | refine ex_alloc ?_ _))⟩
  case round =>
    obtain ⟨k, hk, rfl, X0, rfl⟩ := hrel
    by_cases hlt : k < n
    · obtain ⟨g, off, rfl, hg, hcell⟩ := hs.pos (by omega)
      have h1 := hcell k hlt
      have h0 := hcell 0 (by omega)
      rw [Nat.zero_mul, Nat.add_zero] at h0
      generalize E k = f at h1
      generalize E 0 = f0 at h0
      clear hcell
      by_cases h12 : k = 12
      · have h12' : ((k : Int) == 12) = true := by rw [h12]; rfl
        have H12 := Lib.hid h12
        clear h12
        go_wp2
        go_loopw [58] (fun i wr => ∃ q : Nat, q ≤ n2 ∧ i = I q ∧ Ex w wr) (fun i _ => n2 - (intOf i).toNat)
        case atStart => exact ⟨0, by omega, rfl, (by repeat (first | exact ex_refl _ | refine ex_appR ?_ _ | refine ex_wx ?_ _ | refine ex_drew ?_ | refine ex_alloc ?_ _))⟩
        case round =>
          obtain ⟨q, hq, rfl, X1, rfl⟩ := hrel
          by_cases hlq : q < n2
          · obtain ⟨g2, off2, rfl, hg2, hcell2⟩ := hs2.pos (by omega)
            have h2 := hcell2 q hlq
            have hz := HZ.out q hlq
            generalize E2 q = s at h2 hz
            clear hcell2
            by_cases h12 : q = 12
            · have h12' : ((q : Int) == 12) = true := by rw [h12]; rfl
              have H12 := Lib.hid h12
              clear h12
              go_wp2
              go_ret
              exact post_mk rfl (by repeat (first | exact ex_refl _ | refine ex_appR ?_ _ | refine ex_wx ?_ _ | refine ex_drew ?_ | refine ex_alloc ?_ _))
            · have h12' : ((q : Int) == 12) = false := beq_eq_false_iff_ne.2 (by omega)
              clear h12
              obtain ⟨s2, hs2e⟩ : ∃ s2, s.extract 0 (min (s.size : Int) 100).toNat = s2 := ⟨_, rfl⟩
              have hz3 : s2.size ≤ maxLen := by rw [← hs2e, ByteArray.size_extract]; unfold maxLen; omega
              have HS2 := Lib.hid hs2e
              clear hs2e
              by_cases hok : okS s2
              · go_wp2_with fail
                rw [HS2.out]
                go_wp2_with (first | (go_at_call 29; refine (parse_ok s2 hok hz3 _).mono ?_; rintro e w' ⟨rfl, X, rfl⟩) | (go_at_call 30; refine (refparse_ok s2 hok hz3 _).mono ?_; rintro e w' ⟨rfl, X, rfl⟩))
                exact ⟨⟨q + 1, by omega, by go_num, (by repeat (first | exact ex_refl _ | refine ex_appR ?_ _ | refine ex_wx ?_ _ | refine ex_drew ?_ | refine ex_alloc ?_ _))⟩, by simp [intOf]; omega⟩
              · go_wp2_with fail
                rw [HS2.out]
                go_wp2_with (first | (go_at_call 29; refine (parse_no s2 hok hz3 _).mono ?_; rintro e w' ⟨rfl, X, rfl⟩) | (go_at_call 30; refine (refparse_no s2 hok hz3 _).mono ?_; rintro e w' ⟨rfl, X, rfl⟩))
                exact ⟨⟨q + 1, by omega, by go_num, (by repeat (first | exact ex_refl _ | refine ex_appR ?_ _ | refine ex_wx ?_ _ | refine ex_drew ?_ | refine ex_alloc ?_ _))⟩, by simp [intOf]; omega⟩
          · obtain rfl : q = n2 := by omega
            clear hlq hq
            go_wp2
            go_ret
            exact post_mk rfl (by repeat (first | exact ex_refl _ | refine ex_appR ?_ _ | refine ex_wx ?_ _ | refine ex_drew ?_ | refine ex_alloc ?_ _))
      · have h12' : ((k : Int) == 12) = false := beq_eq_false_iff_ne.2 (by omega)
        have hpos : (0 : Int) < n := by omega
        clear h12
        go_wp2
        refine wp_region_mix [(0, true), (2, true), (1, false), (3, false), (4, true), (5, true), (6, true), (7, true), (8, true), (9, true), (11, true), (12, true), (13, true), (14, true), (10, false), (15, false), (16, true), (17, true), (18, true), (19, true), (20, true), (21, true), (22, true), (24, true), (25, true), (26, true), (27, true), (23, false), (28, false), (29, true), (30, true)] 31 (by kernel_rfl) (by kernel_rfl) (fun _ _ d _ _ h => by cases d <;> exact h) ?_
        simp only [List.map_cons, List.map_nil, nth, List.drop_succ_cons, List.drop_zero]
        repeat (first | (refine wpMix_look ?_; go_big_quiet_step (fail); refine wpQuiet_nil ?_) | (refine wpMix_eff rfl (fun X1 => ?_); go_wp2_with (first | (go_at_call 25; refine (textS_any _ _).mono ?_; rintro e w' ⟨rfl, X, rfl⟩) | (go_at_call 26; refine (reftextS_any _ _).mono ?_; rintro e w' ⟨rfl, X, rfl⟩) | (go_at_call 27; refine (less_any _ _ _).mono ?_; rintro e w' ⟨rfl, X, rfl⟩) | (go_at_call 28; refine (refless_any _ _ _).mono ?_; rintro e w' ⟨rfl, X, rfl⟩)); refine mixQ_mk (by first | exact ex_refl _ | exact ⟨_, rfl⟩ | exact ex_app _ _ _ | (simp only [wx_wx, wx_drew]; first | exact ex_refl _ | exact ex_app _ _ _ | exact ⟨_, rfl⟩) | (repeat (first | exact ex_refl _ | refine ex_drew ?_ | refine ex_alloc ?_ _ | refine ex_wx ?_ _))) ?_) | (refine wpMix_effF (by rfl) ?_; go_simp) | (refine wpMix_effT (by rfl) (fun X1 => ?_); go_wp2_with (first | (go_at_call 25; refine (textS_any _ _).mono ?_; rintro e w' ⟨rfl, X, rfl⟩) | (go_at_call 26; refine (reftextS_any _ _).mono ?_; rintro e w' ⟨rfl, X, rfl⟩) | (go_at_call 27; refine (less_any _ _ _).mono ?_; rintro e w' ⟨rfl, X, rfl⟩) | (go_at_call 28; refine (refless_any _ _ _).mono ?_; rintro e w' ⟨rfl, X, rfl⟩)); refine mixQ_mk (by first | exact ex_refl _ | exact ⟨_, rfl⟩ | exact ex_app _ _ _ | (simp only [wx_wx, wx_drew]; first | exact ex_refl _ | exact ex_app _ _ _ | exact ⟨_, rfl⟩) | (repeat (first | exact ex_refl _ | refine ex_drew ?_ | refine ex_alloc ?_ _ | refine ex_wx ?_ _))) ?_))
        refine wpMix_nil (fun X2 => ?_)
        go_wp2
        exact ⟨⟨k + 1, by omega, by go_num, (by repeat (first | exact ex_refl _ | refine ex_appR ?_ _ | refine ex_wx ?_ _ | refine ex_drew ?_ | refine ex_alloc ?_ _))⟩, by simp [intOf]; omega⟩
    · obtain rfl : k = n := by omega
      clear hlt hk
      go_wp2
      go_loopw [58] (fun i wr => ∃ q : Nat, q ≤ n2 ∧ i = I q ∧ Ex w wr) (fun i _ => n2 - (intOf i).toNat)
      case atStart => exact ⟨0, by omega, rfl, (by repeat (first | exact ex_refl _ | refine ex_appR ?_ _ | refine ex_wx ?_ _ | refine ex_drew ?_ | refine ex_alloc ?_ _))⟩
      case round =>
        obtain ⟨q, hq, rfl, X1, rfl⟩ := hrel
        by_cases hlq : q < n2
        · obtain ⟨g2, off2, rfl, hg2, hcell2⟩ := hs2.pos (by omega)
          have h2 := hcell2 q hlq
          have hz := HZ.out q hlq
          generalize E2 q = s at h2 hz
          clear hcell2
          by_cases h12 : q = 12
          · have h12' : ((q : Int) == 12) = true := by rw [h12]; rfl
            have H12 := Lib.hid h12
            clear h12
            go_wp2
            go_ret
            exact post_mk rfl (by repeat (first | exact ex_refl _ | refine ex_appR ?_ _ | refine ex_wx ?_ _ | refine ex_drew ?_ | refine ex_alloc ?_ _))
          · have h12' : ((q : Int) == 12) = false := beq_eq_false_iff_ne.2 (by omega)
            clear h12
            obtain ⟨s2, hs2e⟩ : ∃ s2, s.extract 0 (min (s.size : Int) 100).toNat = s2 := ⟨_, rfl⟩
            have hz3 : s2.size ≤ maxLen := by rw [← hs2e, ByteArray.size_extract]; unfold maxLen; omega
            have HS2 := Lib.hid hs2e
            clear hs2e
            by_cases hok : okS s2
            · go_wp2_with fail
              rw [HS2.out]
              go_wp2_with (first | (go_at_call 29; refine (parse_ok s2 hok hz3 _).mono ?_; rintro e w' ⟨rfl, X, rfl⟩) | (go_at_call 30; refine (refparse_ok s2 hok hz3 _).mono ?_; rintro e w' ⟨rfl, X, rfl⟩))
              exact ⟨⟨q + 1, by omega, by go_num, (by repeat (first | exact ex_refl _ | refine ex_appR ?_ _ | refine ex_wx ?_ _ | refine ex_drew ?_ | refine ex_alloc ?_ _))⟩, by simp [intOf]; omega⟩
            · go_wp2_with fail
              rw [HS2.out]
              go_wp2_with (first | (go_at_call 29; refine (parse_no s2 hok hz3 _).mono ?_; rintro e w' ⟨rfl, X, rfl⟩) | (go_at_call 30; refine (refparse_no s2 hok hz3 _).mono ?_; rintro e w' ⟨rfl, X, rfl⟩))
              exact ⟨⟨q + 1, by omega, by go_num, (by repeat (first | exact ex_refl _ | refine ex_appR ?_ _ | refine ex_wx ?_ _ | refine ex_drew ?_ | refine ex_alloc ?_ _))⟩, by simp [intOf]; omega⟩
        · obtain rfl : q = n2 := by omega
          clear hlq hq
          go_wp2
          go_ret
          exact post_mk rfl (by repeat (first | exact ex_refl _ | refine ex_appR ?_ _ | refine ex_wx ?_ _ | refine ex_drew ?_ | refine ex_alloc ?_ _))
end Go.Proofs.YtbebehcalephfaaDoor
