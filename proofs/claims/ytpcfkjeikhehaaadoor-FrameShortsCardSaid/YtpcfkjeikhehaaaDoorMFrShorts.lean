import Derived.Test.YtpcfkjeikhehaaaDoorMFrW

/- FrameShorts: what it does. -/
set_option linter.unusedSimpArgs false
set_option linter.unusedVariables false
set_option maxRecDepth 20000
namespace Go.Proofs.YtpcfkjeikhehaaaDoor
open Go.RowKit
theorem refshort_ln (x : UInt64) (w : World) : Calls Tryd.prog 12 #[L x] w (PostOw w (shortL x.toNat)) := refshort_any x.toNat w (u64_toNat x)
set_option maxHeartbeats 2000000 in
theorem shorts_any (a : Option Addr) (n c : Nat) (E : Nat → UInt64) (a2 : Option Addr) (n2 c2 : Nat) (R : Nat → SlE) (w : World) (G : FGlob w) (hn : n ≤ c) (hc : c ≤ maxLen) (hs : SlV w a n (fun i => L (E i)))
    (hn2 : n2 ≤ c2) (hc2 : c2 ≤ maxLen) (hs2 : SlV w a2 n2 (fun i => (R i).v)) (hR : ∀ i, i < n2 → (R i).ok w) :
    Calls Tryd.prog 3 #[.slice a n c, .slice a2 n2 c2] w (Post w (.bool true)) := by
  unfold maxLen at hc hc2
  have HR := Lib.hid hR
  have HS1 := Lib.hid hs
  have HS2 := Lib.hid hs2
  clear hR hs hs2
  go_enter Tryd.func3, Tryd.ntmps3
  go_wp2_with (go_at_call 9; (with_reducible refine (wakes_any _ (G.ex (by (try show Ex _ _); repeat (first | (with_reducible exact ex_refl _) | (with_reducible assumption) | (with_reducible refine ex_drewL ?_) | (with_reducible refine ex_appR ?_ _) | (with_reducible refine ex_wx ?_ _) | (with_reducible refine ex_drew ?_) | (with_reducible refine ex_alloc ?_ _))))).mono ?_); rintro e w' ⟨rfl, X, rfl⟩)
  go_loopw [19] (fun i wr => ∃ k : Nat, k ≤ n ∧ i = I k ∧ Ex w wr) (fun i _ => n - (intOf i).toNat)
  case atStart => exact ⟨0, by omega, rfl, (by (try show Ex _ _); repeat (first | (with_reducible exact ex_refl _) | (with_reducible assumption) | (with_reducible refine ex_drewL ?_) | (with_reducible refine ex_appR ?_ _) | (with_reducible refine ex_wx ?_ _) | (with_reducible refine ex_drew ?_) | (with_reducible refine ex_alloc ?_ _)))⟩
  case round =>
    obtain ⟨k, hk, rfl, X0, rfl⟩ := hrel
    by_cases hb : k < n ∧ k ≠ 20
    · obtain ⟨hlt, h20⟩ := hb
      obtain ⟨g, off, rfl, hg, hcell⟩ := HS1.out.pos (by omega)
      have h1 := hcell k hlt
      clear hcell HS1 HS2 HR
      generalize E k = x at *
      have e1 : ((k : Int) == 20) = false := beq_eq_false_iff_ne.2 (by omega)
      clear h20
      go_wp2_with (first | (go_at_call 11; (with_reducible refine (short_ln x _).mono ?_); rintro e w2 ⟨s1, rfl, q1, X1, rfl⟩; (try simp only [wx_wx] at q1)) | (go_at_call 12; (with_reducible refine (refshort_ln x _).mono ?_); rintro e w2 ⟨s2, rfl, q2, X2, rfl⟩; (try simp only [wx_wx] at q2)) | (go_at_call 10; (with_reducible refine (sameL_any _ _ _ _ _ (q1.slt.ex (by (try show Ex _ _); repeat (first | (with_reducible exact ex_refl _) | (with_reducible assumption) | (with_reducible refine ex_drewL ?_) | (with_reducible refine ex_appR ?_ _) | (with_reducible refine ex_wx ?_ _) | (with_reducible refine ex_drew ?_) | (with_reducible refine ex_alloc ?_ _)))) (q2.slt.ex (by (try show Ex _ _); repeat (first | (with_reducible exact ex_refl _) | (with_reducible assumption) | (with_reducible refine ex_drewL ?_) | (with_reducible refine ex_appR ?_ _) | (with_reducible refine ex_wx ?_ _) | (with_reducible refine ex_drew ?_) | (with_reducible refine ex_alloc ?_ _))))).mono ?_); rw [decide_eq_true (Eq.refl (shortL x.toNat))]; rintro e w2 ⟨rfl, X3, rfl⟩))
      refine ⟨⟨k + 1, by omega, by go_num, (by (try show Ex _ _); repeat (first | (with_reducible exact ex_refl _) | (with_reducible assumption) | (with_reducible refine ex_drewL ?_) | (with_reducible refine ex_appR ?_ _) | (with_reducible refine ex_wx ?_ _) | (with_reducible refine ex_drew ?_) | (with_reducible refine ex_alloc ?_ _)))⟩, by simp [intOf]; omega⟩
    · rcases (show k = n ∨ (k < n ∧ k = 20) by omega) with rfl | ⟨hlt, h20⟩
      · clear hb HS1
        go_wp2
        go_loopw [35] (fun i wr => ∃ k : Nat, k ≤ n2 ∧ i = I k ∧ Ex w wr) (fun i _ => n2 - (intOf i).toNat)
        case atStart => exact ⟨0, by omega, rfl, (by (try show Ex _ _); repeat (first | (with_reducible exact ex_refl _) | (with_reducible assumption) | (with_reducible refine ex_drewL ?_) | (with_reducible refine ex_appR ?_ _) | (with_reducible refine ex_wx ?_ _) | (with_reducible refine ex_drew ?_) | (with_reducible refine ex_alloc ?_ _)))⟩
        case round =>
          obtain ⟨q, hq, rfl, X9, rfl⟩ := hrel
          by_cases hb : q < n2 ∧ q ≠ 20
          · obtain ⟨hlt2, h20⟩ := hb
            obtain ⟨g2, off2, rfl, hg2, hcell2⟩ := HS2.out.pos (by omega)
            have h2 := hcell2 q hlt2
            have hsl := slt_of_ok (HR.out q hlt2)
            clear hcell2 HS2 HR
            generalize R q = e at *
            obtain ⟨ea, en, ec, ef⟩ := e
            simp only [SlE.v] at h2 hsl
            have hll := listF_len en ef
            generalize listF en ef = l at *
            obtain ⟨m, hm⟩ : ∃ m, min en 30 = m := ⟨_, rfl⟩
            have hst := SlT.take hsl m (by omega)
            have hcs : en ≤ ec := by obtain ⟨_, _, hv, h9, _⟩ := hsl.out; simp at hv; omega
            have e2 : (m : Int) ≤ ec := by omega
            have HL1 := Lib.hid (fun w' (k : Ex w w') => long_any _ _ w' (hst.ex k))
            have HL2 := Lib.hid (fun w' (k : Ex w w') => reflong_any _ _ w' (hst.ex k))
            clear hst hsl hll
            generalize longL (List.take m l) = o at *
            have e1 : ((q : Int) == 20) = false := beq_eq_false_iff_ne.2 (by omega)
            clear h20
            by_cases h30 : 30 < en
            · obtain rfl : m = 30 := by omega
              have e4 : (30 : Int) < en := by omega
              clear hm
              simp only [Int.cast_ofNat_Int] at e2
              rcases o with _ | ⟨x9, n9⟩
              all_goals
                simp only [longV] at HL1 HL2
                go_wp2_with (first | (go_at_call 13; (with_reducible refine (HL1.out _ (by (try show Ex _ _); repeat (first | (with_reducible exact ex_refl _) | (with_reducible assumption) | (with_reducible refine ex_drewL ?_) | (with_reducible refine ex_appR ?_ _) | (with_reducible refine ex_wx ?_ _) | (with_reducible refine ex_drew ?_) | (with_reducible refine ex_alloc ?_ _)))).mono ?_); rintro e w2 ⟨rfl, X1, rfl⟩) | (go_at_call 14; (with_reducible refine (HL2.out _ (by (try show Ex _ _); repeat (first | (with_reducible exact ex_refl _) | (with_reducible assumption) | (with_reducible refine ex_drewL ?_) | (with_reducible refine ex_appR ?_ _) | (with_reducible refine ex_wx ?_ _) | (with_reducible refine ex_drew ?_) | (with_reducible refine ex_alloc ?_ _)))).mono ?_); rintro e w2 ⟨rfl, X2, rfl⟩))
                refine ⟨⟨q + 1, by omega, by go_num, (by (try show Ex _ _); repeat (first | (with_reducible exact ex_refl _) | (with_reducible assumption) | (with_reducible refine ex_drewL ?_) | (with_reducible refine ex_appR ?_ _) | (with_reducible refine ex_wx ?_ _) | (with_reducible refine ex_drew ?_) | (with_reducible refine ex_alloc ?_ _)))⟩, by simp [intOf]; omega⟩
            obtain rfl : m = en := by omega
            have e4 : ¬ (30 : Int) < m := by omega
            clear hm
            rcases o with _ | ⟨x9, n9⟩
            all_goals
              simp only [longV] at HL1 HL2
              go_wp2_with (first | (go_at_call 13; (with_reducible refine (HL1.out _ (by (try show Ex _ _); repeat (first | (with_reducible exact ex_refl _) | (with_reducible assumption) | (with_reducible refine ex_drewL ?_) | (with_reducible refine ex_appR ?_ _) | (with_reducible refine ex_wx ?_ _) | (with_reducible refine ex_drew ?_) | (with_reducible refine ex_alloc ?_ _)))).mono ?_); rintro e w2 ⟨rfl, X1, rfl⟩) | (go_at_call 14; (with_reducible refine (HL2.out _ (by (try show Ex _ _); repeat (first | (with_reducible exact ex_refl _) | (with_reducible assumption) | (with_reducible refine ex_drewL ?_) | (with_reducible refine ex_appR ?_ _) | (with_reducible refine ex_wx ?_ _) | (with_reducible refine ex_drew ?_) | (with_reducible refine ex_alloc ?_ _)))).mono ?_); rintro e w2 ⟨rfl, X2, rfl⟩))
              refine ⟨⟨q + 1, by omega, by go_num, (by (try show Ex _ _); repeat (first | (with_reducible exact ex_refl _) | (with_reducible assumption) | (with_reducible refine ex_drewL ?_) | (with_reducible refine ex_appR ?_ _) | (with_reducible refine ex_wx ?_ _) | (with_reducible refine ex_drew ?_) | (with_reducible refine ex_alloc ?_ _)))⟩, by simp [intOf]; omega⟩
          · rcases (show q = n2 ∨ (q < n2 ∧ q = 20) by omega) with rfl | ⟨hlt2, h20⟩
            · go_wp2
              go_ret
              exact post_mk rfl (by (try show Ex _ _); repeat (first | (with_reducible exact ex_refl _) | (with_reducible assumption) | (with_reducible refine ex_drewL ?_) | (with_reducible refine ex_appR ?_ _) | (with_reducible refine ex_wx ?_ _) | (with_reducible refine ex_drew ?_) | (with_reducible refine ex_alloc ?_ _)))
            · obtain ⟨g2, off2, rfl, hg2, hcell2⟩ := HS2.out.pos (by omega)
              have h2 := hcell2 q hlt2
              have e1 : ((q : Int) == 20) = true := by rw [h20]; rfl
              clear hcell2 HS2 HR h20
              generalize R q = e at *
              obtain ⟨ea, en, ec, ef⟩ := e
              simp only [SlE.v] at h2
              go_wp2
              go_ret
              exact post_mk rfl (by (try show Ex _ _); repeat (first | (with_reducible exact ex_refl _) | (with_reducible assumption) | (with_reducible refine ex_drewL ?_) | (with_reducible refine ex_appR ?_ _) | (with_reducible refine ex_wx ?_ _) | (with_reducible refine ex_drew ?_) | (with_reducible refine ex_alloc ?_ _)))
      · obtain ⟨g, off, rfl, hg, hcell⟩ := HS1.out.pos (by omega)
        have h1 := hcell k hlt
        have e1 : ((k : Int) == 20) = true := by rw [h20]; rfl
        clear hcell HS1 hb h20
        generalize E k = x at *
        go_wp2
        go_loopw [35] (fun i wr => ∃ k : Nat, k ≤ n2 ∧ i = I k ∧ Ex w wr) (fun i _ => n2 - (intOf i).toNat)
        case atStart => exact ⟨0, by omega, rfl, (by (try show Ex _ _); repeat (first | (with_reducible exact ex_refl _) | (with_reducible assumption) | (with_reducible refine ex_drewL ?_) | (with_reducible refine ex_appR ?_ _) | (with_reducible refine ex_wx ?_ _) | (with_reducible refine ex_drew ?_) | (with_reducible refine ex_alloc ?_ _)))⟩
        case round =>
          obtain ⟨q, hq, rfl, X9, rfl⟩ := hrel
          by_cases hb : q < n2 ∧ q ≠ 20
          · obtain ⟨hlt2, h20⟩ := hb
            obtain ⟨g2, off2, rfl, hg2, hcell2⟩ := HS2.out.pos (by omega)
            have h2 := hcell2 q hlt2
            have hsl := slt_of_ok (HR.out q hlt2)
            clear hcell2 HS2 HR
            generalize R q = e at *
            obtain ⟨ea, en, ec, ef⟩ := e
            simp only [SlE.v] at h2 hsl
            have hll := listF_len en ef
            generalize listF en ef = l at *
            obtain ⟨m, hm⟩ : ∃ m, min en 30 = m := ⟨_, rfl⟩
            have hst := SlT.take hsl m (by omega)
            have hcs : en ≤ ec := by obtain ⟨_, _, hv, h9, _⟩ := hsl.out; simp at hv; omega
            have e2 : (m : Int) ≤ ec := by omega
            have HL1 := Lib.hid (fun w' (k : Ex w w') => long_any _ _ w' (hst.ex k))
            have HL2 := Lib.hid (fun w' (k : Ex w w') => reflong_any _ _ w' (hst.ex k))
            clear hst hsl hll
            generalize longL (List.take m l) = o at *
            have e1 : ((q : Int) == 20) = false := beq_eq_false_iff_ne.2 (by omega)
            clear h20
            by_cases h30 : 30 < en
            · obtain rfl : m = 30 := by omega
              have e4 : (30 : Int) < en := by omega
              clear hm
              simp only [Int.cast_ofNat_Int] at e2
              rcases o with _ | ⟨x9, n9⟩
              all_goals
                simp only [longV] at HL1 HL2
                go_wp2_with (first | (go_at_call 13; (with_reducible refine (HL1.out _ (by (try show Ex _ _); repeat (first | (with_reducible exact ex_refl _) | (with_reducible assumption) | (with_reducible refine ex_drewL ?_) | (with_reducible refine ex_appR ?_ _) | (with_reducible refine ex_wx ?_ _) | (with_reducible refine ex_drew ?_) | (with_reducible refine ex_alloc ?_ _)))).mono ?_); rintro e w2 ⟨rfl, X1, rfl⟩) | (go_at_call 14; (with_reducible refine (HL2.out _ (by (try show Ex _ _); repeat (first | (with_reducible exact ex_refl _) | (with_reducible assumption) | (with_reducible refine ex_drewL ?_) | (with_reducible refine ex_appR ?_ _) | (with_reducible refine ex_wx ?_ _) | (with_reducible refine ex_drew ?_) | (with_reducible refine ex_alloc ?_ _)))).mono ?_); rintro e w2 ⟨rfl, X2, rfl⟩))
                refine ⟨⟨q + 1, by omega, by go_num, (by (try show Ex _ _); repeat (first | (with_reducible exact ex_refl _) | (with_reducible assumption) | (with_reducible refine ex_drewL ?_) | (with_reducible refine ex_appR ?_ _) | (with_reducible refine ex_wx ?_ _) | (with_reducible refine ex_drew ?_) | (with_reducible refine ex_alloc ?_ _)))⟩, by simp [intOf]; omega⟩
            obtain rfl : m = en := by omega
            have e4 : ¬ (30 : Int) < m := by omega
            clear hm
            rcases o with _ | ⟨x9, n9⟩
            all_goals
              simp only [longV] at HL1 HL2
              go_wp2_with (first | (go_at_call 13; (with_reducible refine (HL1.out _ (by (try show Ex _ _); repeat (first | (with_reducible exact ex_refl _) | (with_reducible assumption) | (with_reducible refine ex_drewL ?_) | (with_reducible refine ex_appR ?_ _) | (with_reducible refine ex_wx ?_ _) | (with_reducible refine ex_drew ?_) | (with_reducible refine ex_alloc ?_ _)))).mono ?_); rintro e w2 ⟨rfl, X1, rfl⟩) | (go_at_call 14; (with_reducible refine (HL2.out _ (by (try show Ex _ _); repeat (first | (with_reducible exact ex_refl _) | (with_reducible assumption) | (with_reducible refine ex_drewL ?_) | (with_reducible refine ex_appR ?_ _) | (with_reducible refine ex_wx ?_ _) | (with_reducible refine ex_drew ?_) | (with_reducible refine ex_alloc ?_ _)))).mono ?_); rintro e w2 ⟨rfl, X2, rfl⟩))
              refine ⟨⟨q + 1, by omega, by go_num, (by (try show Ex _ _); repeat (first | (with_reducible exact ex_refl _) | (with_reducible assumption) | (with_reducible refine ex_drewL ?_) | (with_reducible refine ex_appR ?_ _) | (with_reducible refine ex_wx ?_ _) | (with_reducible refine ex_drew ?_) | (with_reducible refine ex_alloc ?_ _)))⟩, by simp [intOf]; omega⟩
          · rcases (show q = n2 ∨ (q < n2 ∧ q = 20) by omega) with rfl | ⟨hlt2, h20⟩
            · go_wp2
              go_ret
              exact post_mk rfl (by (try show Ex _ _); repeat (first | (with_reducible exact ex_refl _) | (with_reducible assumption) | (with_reducible refine ex_drewL ?_) | (with_reducible refine ex_appR ?_ _) | (with_reducible refine ex_wx ?_ _) | (with_reducible refine ex_drew ?_) | (with_reducible refine ex_alloc ?_ _)))
            · obtain ⟨g2, off2, rfl, hg2, hcell2⟩ := HS2.out.pos (by omega)
              have h2 := hcell2 q hlt2
              have e1 : ((q : Int) == 20) = true := by rw [h20]; rfl
              clear hcell2 HS2 HR h20
              generalize R q = e at *
              obtain ⟨ea, en, ec, ef⟩ := e
              simp only [SlE.v] at h2
              go_wp2
              go_ret
              exact post_mk rfl (by (try show Ex _ _); repeat (first | (with_reducible exact ex_refl _) | (with_reducible assumption) | (with_reducible refine ex_drewL ?_) | (with_reducible refine ex_appR ?_ _) | (with_reducible refine ex_wx ?_ _) | (with_reducible refine ex_drew ?_) | (with_reducible refine ex_alloc ?_ _)))
end Go.Proofs.YtpcfkjeikhehaaaDoor
