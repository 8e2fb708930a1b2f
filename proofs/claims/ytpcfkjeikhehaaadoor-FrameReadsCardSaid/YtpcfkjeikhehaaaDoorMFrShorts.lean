import Derived.Test.YtpcfkjeikhehaaaDoorMCat
import Derived.Test.YtpcfkjeikhehaaaDoorMRdZ
import Derived.Test.YtpcfkjeikhehaaaDoorMRdK
import Derived.Test.YtpcfkjeikhehaaaDoorMRdB
import Derived.Test.YtpcfkjeikhehaaaDoorMSim

/- FrameShorts: what it does. -/
set_option linter.unusedSimpArgs false
set_option linter.unusedVariables false
set_option maxRecDepth 20000
namespace Go.Proofs.YtpcfkjeikhehaaaDoor
open Go.RowKit
theorem refshort_ln (x : UInt64) (w : World) : Calls Tryd.prog 12 #[L x] w (PostOw w (shortL x.toNat)) := refshort_any x.toNat w (u64_toNat x)
set_option maxHeartbeats 2000000 in
theorem shorts_any (a : Option Addr) (n c : Nat) (E : Nat → UInt64) (a2 : Option Addr) (n2 c2 : Nat) (R : Nat → SlE) (w : World) (G : FGlob w) (hn : n ≤ c) (hc : c ≤ maxLen) (hs : SlV w a n (fun i => L (E i)))
    (hn2 : n2 ≤ c2) (hc2 : c2 ≤ maxLen) (hs2 : SlV w a2 n2 (fun i => (R i).v)) (hR : ∀ i, i < n2 → (R i).ok w) :
    Calls Tryd.prog 3 #[.slice a n c, .slice a2 n2 c2] w (Post w (.bool true)) := by
  unfold maxLen at hc hc2
  have HR := Lib.hid hR
  have HS1 := Lib.hid hs
  have HS2 := Lib.hid hs2
  clear hR hs hs2
  go_enter Tryd.func3, Tryd.ntmps3
  go_wp2_with (go_at_call 9; (with_reducible refine (wakes_any _ (G.ex (by (try show Ex _ _); repeat (first | (with_reducible exact ex_refl _) | (with_reducible assumption) | (with_reducible refine ex_drewL ?_) | (with_reducible refine ex_appR ?_ _) | (with_reducible refine ex_wx ?_ _) | (with_reducible refine ex_drew ?_) | (with_reducible refine ex_alloc ?_ _))))).mono ?_); rintro e w' ⟨rfl, X, rfl⟩)
  go_loopw [19] (fun i wr => ∃ k : Nat, k ≤ n ∧ i = I k ∧ Ex w wr) (fun i _ => n - (intOf i).toNat)
  case atStart => exact ⟨0, by omega, rfl, (by (try show Ex _ _); repeat (first | (with_reducible exact ex_refl _) | (with_reducible assumption) | (with_reducible refine ex_drewL ?_) | (with_reducible refine ex_appR ?_ _) | (with_reducible refine ex_wx ?_ _) | (with_reducible refine ex_drew ?_) | (with_reducible refine ex_alloc ?_ _)))⟩
  case round =>
    obtain ⟨k, hk, rfl, X0, rfl⟩ := hrel
    by_cases hb : k < n ∧ k ≠ 20
    · obtain ⟨hlt, h20⟩ := hb
      obtain ⟨g, off, rfl, hg, hcell⟩ := HS1.out.pos (by omega)
      have h1 := hcell k hlt
      clear hcell HS1 HS2 HR
      generalize E k = x at *
      have e1 : ((k : Int) == 20) = false := beq_eq_false_iff_ne.2 (by omega)
      clear h20
      go_wp2_with (first | (go_at_call 11; (with_reducible refine (short_ln x _).mono ?_); rintro e w2 ⟨s1, rfl, q1, X1, rfl⟩; (try simp only [wx_wx] at q1)) | (go_at_call 12; (with_reducible refine (refshort_ln x _).mono ?_); rintro e w2 ⟨s2, rfl, q2, X2, rfl⟩; (try simp only [wx_wx] at q2)) | (go_at_call 10; (with_reducible refine (sameL_any _ _ _ _ _ (q1.slt.ex (by (try show Ex _ _); repeat (first | (with_reducible exact ex_refl _) | (with_reducible assumption) | (with_reducible refine ex_drewL ?_) | (with_reducible refine ex_appR ?_ _) | (with_reducible refine ex_wx ?_ _) | (with_reducible refine ex_drew ?_) | (with_reducible refine ex_alloc ?_ _)))) (q2.slt.ex (by (try show Ex _ _); repeat (first | (with_reducible exact ex_refl _) | (with_reducible assumption) | (with_reducible refine ex_drewL ?_) | (with_reducible refine ex_appR ?_ _) | (with_reducible refine ex_wx ?_ _) | (with_reducible refine ex_drew ?_) | (with_reducible refine ex_alloc ?_ _))))).mono ?_); rw [decide_eq_true (Eq.refl (shortL x.toNat))]; rintro e w2 ⟨rfl, X3, rfl⟩))
      refine ⟨⟨k + 1, by omega, by go_num, (by (try show Ex _ _); repeat (first | (with_reducible exact ex_refl _) | (with_reducible assumption) | (with_reducible refine ex_drewL ?_) | (with_reducible refine ex_appR ?_ _) | (with_reducible refine ex_wx ?_ _) | (with_reducible refine ex_drew ?_) | (with_reducible refine ex_alloc ?_ _)))⟩, by simp [intOf]; omega⟩
    · rcases (show k = n ∨ (k < n ∧ k = 20) by omega) with rfl | ⟨hlt, h20⟩
      · clear hb HS1
        go_wp2
        go_loopw [35] (fun i wr => ∃ k : Nat, k ≤ n2 ∧ i = I k ∧ Ex w wr) (fun i _ => n2 - (intOf i).toNat)
        case atStart => exact ⟨0, by omega, rfl, (by (try show Ex _ _); repeat (first | (with_reducible exact ex_refl _) | (with_reducible assumption) | (with_reducible refine ex_drewL ?_) | (with_reducible refine ex_appR ?_ _) | (with_reducible refine ex_wx ?_ _) | (with_reducible refine ex_drew ?_) | (with_reducible refine ex_alloc ?_ _)))⟩
        case round =>
          obtain ⟨q, hq, rfl, X9, rfl⟩ := hrel
          by_cases hb : q < n2 ∧ q ≠ 20
          · obtain ⟨hlt2, h20⟩ := hb
            obtain ⟨g2, off2, rfl, hg2, hcell2⟩ := HS2.out.pos (by omega)
            have h2 := hcell2 q hlt2
            have hsl := slt_of_ok (HR.out q hlt2)
            clear hcell2 HS2 HR
            generalize R q = e at *
            obtain ⟨ea, en, ec, ef⟩ := e
            simp only [SlE.v] at h2 hsl
            have hll := listF_len en ef
            generalize listF en ef = l at *
            obtain ⟨m, hm⟩ : ∃ m, min en 30 = m := ⟨_, rfl⟩
            have hst := SlT.take hsl m (by omega)
            have hcs : en ≤ ec := by obtain ⟨_, _, hv, h9, _⟩ := hsl.out; simp at hv; omega
            have e2 : (m : Int) ≤ ec := by omega
            have HL1 := Lib.hid (fun w' (k : Ex w w') => long_any _ _ w' (hst.ex k))
            have HL2 := Lib.hid (fun w' (k : Ex w w') => reflong_any _ _ w' (hst.ex k))
            clear hst hsl hll
            generalize longL (List.take m l) = o at *
            have e1 : ((q : Int) == 20) = false := beq_eq_false_iff_ne.2 (by omega)
            clear h20
            by_cases h30 : 30 < en
            · obtain rfl : m = 30 := by omega
              have e4 : (30 : Int) < en := by omega
              clear hm
              simp only [Int.cast_ofNat_Int] at e2
              rcases o with _ | ⟨x9, n9⟩
              all_goals
                simp only [longV] at HL1 HL2
                go_wp2_with (first | (go_at_call 13; (with_reducible refine (HL1.out _ (by (try show Ex _ _); repeat (first | (with_reducible exact ex_refl _) | (with_reducible assumption) | (with_reducible refine ex_drewL ?_) | (with_reducible refine ex_appR ?_ _) | (with_reducible refine ex_wx ?_ _) | (with_reducible refine ex_drew ?_) | (with_reducible refine ex_alloc ?_ _)))).mono ?_); rintro e w2 ⟨rfl, X1, rfl⟩) | (go_at_call 14; (with_reducible refine (HL2.out _ (by (try show Ex _ _); repeat (first | (with_reducible exact ex_refl _) | (with_reducible assumption) | (with_reducible refine ex_drewL ?_) | (with_reducible refine ex_appR ?_ _) | (with_reducible refine ex_wx ?_ _) | (with_reducible refine ex_drew ?_) | (with_reducible refine ex_alloc ?_ _)))).mono ?_); rintro e w2 ⟨rfl, X2, rfl⟩))
                refine ⟨⟨q + 1, by omega, by go_num, (by (try show Ex _ _); repeat (first | (with_reducible exact ex_refl _) | (with_reducible assumption) | (with_reducible refine ex_drewL ?_) | (with_reducible refine ex_appR ?_ _) | (with_reducible refine ex_wx ?_ _) | (with_reducible refine ex_drew ?_) | (with_reducible refine ex_alloc ?_ _)))⟩, by simp [intOf]; omega⟩
            obtain rfl : m = en := by omega
            have e4 : ¬ (30 : Int) < m := by omega
            clear hm
            rcases o with _ | ⟨x9, n9⟩
            all_goals
              simp only [longV] at HL1 HL2
              go_wp2_with (first | (go_at_call 13; (with_reducible refine (HL1.out _ (by (try show Ex _ _); repeat (first | (with_reducible exact ex_refl _) | (with_reducible assumption) | (with_reducible refine ex_drewL ?_) | (with_reducible refine ex_appR ?_ _) | (with_reducible refine ex_wx ?_ _) | (with_reducible refine ex_drew ?_) | (with_reducible refine ex_alloc ?_ _)))).mono ?_); rintro e w2 ⟨rfl, X1, rfl⟩) | (go_at_call 14; (with_reducible refine (HL2.out _ (by (try show Ex _ _); repeat (first | (with_reducible exact ex_refl _) | (with_reducible assumption) | (with_reducible refine ex_drewL ?_) | (with_reducible refine ex_appR ?_ _) | (with_reducible refine ex_wx ?_ _) | (with_reducible refine ex_drew ?_) | (with_reducible refine ex_alloc ?_ _)))).mono ?_); rintro e w2 ⟨rfl, X2, rfl⟩))
              refine ⟨⟨q + 1, by omega, by go_num, (by (try show Ex _ _); repeat (first | (with_reducible exact ex_refl _) | (with_reducible assumption) | (with_reducible refine ex_drewL ?_) | (with_reducible refine ex_appR ?_ _) | (with_reducible refine ex_wx ?_ _) | (with_reducible refine ex_drew ?_) | (with_reducible refine ex_alloc ?_ _)))⟩, by simp [intOf]; omega⟩
          · rcases (show q = n2 ∨ (q < n2 ∧ q = 20) by omega) with rfl | ⟨hlt2, h20⟩
            · go_wp2
              go_ret
              exact post_mk rfl (by (try show Ex _ _); repeat (first | (with_reducible exact ex_refl _) | (with_reducible assumption) | (with_reducible refine ex_drewL ?_) | (with_reducible refine ex_appR ?_ _) | (with_reducible refine ex_wx ?_ _) | (with_reducible refine ex_drew ?_) | (with_reducible refine ex_alloc ?_ _)))
            · obtain ⟨g2, off2, rfl, hg2, hcell2⟩ := HS2.out.pos (by omega)
              have h2 := hcell2 q hlt2
              have e1 : ((q : Int) == 20) = true := by rw [h20]; rfl
              clear hcell2 HS2 HR h20
              generalize R q = e at *
              obtain ⟨ea, en, ec, ef⟩ := e
              simp only [SlE.v] at h2
              go_wp2
              go_ret
              exact post_mk rfl (by (try show Ex _ _); repeat (first | (with_reducible exact ex_refl _) | (with_reducible assumption) | (with_reducible refine ex_drewL ?_) | (with_reducible refine ex_appR ?_ _) | (with_reducible refine ex_wx ?_ _) | (with_reducible refine ex_drew ?_) | (with_reducible refine ex_alloc ?_ _)))
      · obtain ⟨g, off, rfl, hg, hcell⟩ := HS1.out.pos (by omega)
        have h1 := hcell k hlt
        have e1 : ((k : Int) == 20) = true := by rw [h20]; rfl
        clear hcell HS1 hb h20
        generalize E k = x at *
        go_wp2
        go_loopw [35] (fun i wr => ∃ k : Nat, k ≤ n2 ∧ i = I k ∧ Ex w wr) (fun i _ => n2 - (intOf i).toNat)
        case atStart => exact ⟨0, by omega, rfl, (by (try show Ex _ _); repeat (first | (with_reducible exact ex_refl _) | (with_reducible assumption) | (with_reducible refine ex_drewL ?_) | (with_reducible refine ex_appR ?_ _) | (with_reducible refine ex_wx ?_ _) | (with_reducible refine ex_drew ?_) | (with_reducible refine ex_alloc ?_ _)))⟩
        case round =>
          obtain ⟨q, hq, rfl, X9, rfl⟩ := hrel
          by_cases hb : q < n2 ∧ q ≠ 20
          · obtain ⟨hlt2, h20⟩ := hb
            obtain ⟨g2, off2, rfl, hg2, hcell2⟩ := HS2.out.pos (by omega)
            have h2 := hcell2 q hlt2
            have hsl := slt_of_ok (HR.out q hlt2)
            clear hcell2 HS2 HR
            generalize R q = e at *
            obtain ⟨ea, en, ec, ef⟩ := e
            simp only [SlE.v] at h2 hsl
            have hll := listF_len en ef
            generalize listF en ef = l at *
            obtain ⟨m, hm⟩ : ∃ m, min en 30 = m := ⟨_, rfl⟩
            have hst := SlT.take hsl m (by omega)
            have hcs : en ≤ ec := by obtain ⟨_, _, hv, h9, _⟩ := hsl.out; simp at hv; omega
            have e2 : (m : Int) ≤ ec := by omega
            have HL1 := Lib.hid (fun w' (k : Ex w w') => long_any _ _ w' (hst.ex k))
            have HL2 := Lib.hid (fun w' (k : Ex w w') => reflong_any _ _ w' (hst.ex k))
            clear hst hsl hll
            generalize longL (List.take m l) = o at *
            have e1 : ((q : Int) == 20) = false := beq_eq_false_iff_ne.2 (by omega)
            clear h20
            by_cases h30 : 30 < en
            · obtain rfl : m = 30 := by omega
              have e4 : (30 : Int) < en := by omega
              clear hm
              simp only [Int.cast_ofNat_Int] at e2
              rcases o with _ | ⟨x9, n9⟩
              all_goals
                simp only [longV] at HL1 HL2
                go_wp2_with (first | (go_at_call 13; (with_reducible refine (HL1.out _ (by (try show Ex _ _); repeat (first | (with_reducible exact ex_refl _) | (with_reducible assumption) | (with_reducible refine ex_drewL ?_) | (with_reducible refine ex_appR ?_ _) | (with_reducible refine ex_wx ?_ _) | (with_reducible refine ex_drew ?_) | (with_reducible refine ex_alloc ?_ _)))).mono ?_); rintro e w2 ⟨rfl, X1, rfl⟩) | (go_at_call 14; (with_reducible refine (HL2.out _ (by (try show Ex _ _); repeat (first | (with_reducible exact ex_refl _) | (with_reducible assumption) | (with_reducible refine ex_drewL ?_) | (with_reducible refine ex_appR ?_ _) | (with_reducible refine ex_wx ?_ _) | (with_reducible refine ex_drew ?_) | (with_reducible refine ex_alloc ?_ _)))).mono ?_); rintro e w2 ⟨rfl, X2, rfl⟩))
                refine ⟨⟨q + 1, by omega, by go_num, (by (try show Ex _ _); repeat (first | (with_reducible exact ex_refl _) | (with_reducible assumption) | (with_reducible refine ex_drewL ?_) | (with_reducible refine ex_appR ?_ _) | (with_reducible refine ex_wx ?_ _) | (with_reducible refine ex_drew ?_) | (with_reducible refine ex_alloc ?_ _)))⟩, by simp [intOf]; omega⟩
            obtain rfl : m = en := by omega
            have e4 : ¬ (30 : Int) < m := by omega
            clear hm
            rcases o with _ | ⟨x9, n9⟩
            all_goals
              simp only [longV] at HL1 HL2
              go_wp2_with (first | (go_at_call 13; (with_reducible refine (HL1.out _ (by (try show Ex _ _); repeat (first | (with_reducible exact ex_refl _) | (with_reducible assumption) | (with_reducible refine ex_drewL ?_) | (with_reducible refine ex_appR ?_ _) | (with_reducible refine ex_wx ?_ _) | (with_reducible refine ex_drew ?_) | (with_reducible refine ex_alloc ?_ _)))).mono ?_); rintro e w2 ⟨rfl, X1, rfl⟩) | (go_at_call 14; (with_reducible refine (HL2.out _ (by (try show Ex _ _); repeat (first | (with_reducible exact ex_refl _) | (with_reducible assumption) | (with_reducible refine ex_drewL ?_) | (with_reducible refine ex_appR ?_ _) | (with_reducible refine ex_wx ?_ _) | (with_reducible refine ex_drew ?_) | (with_reducible refine ex_alloc ?_ _)))).mono ?_); rintro e w2 ⟨rfl, X2, rfl⟩))
              refine ⟨⟨q + 1, by omega, by go_num, (by (try show Ex _ _); repeat (first | (with_reducible exact ex_refl _) | (with_reducible assumption) | (with_reducible refine ex_drewL ?_) | (with_reducible refine ex_appR ?_ _) | (with_reducible refine ex_wx ?_ _) | (with_reducible refine ex_drew ?_) | (with_reducible refine ex_alloc ?_ _)))⟩, by simp [intOf]; omega⟩
          · rcases (show q = n2 ∨ (q < n2 ∧ q = 20) by omega) with rfl | ⟨hlt2, h20⟩
            · go_wp2
              go_ret
              exact post_mk rfl (by (try show Ex _ _); repeat (first | (with_reducible exact ex_refl _) | (with_reducible assumption) | (with_reducible refine ex_drewL ?_) | (with_reducible refine ex_appR ?_ _) | (with_reducible refine ex_wx ?_ _) | (with_reducible refine ex_drew ?_) | (with_reducible refine ex_alloc ?_ _)))
            · obtain ⟨g2, off2, rfl, hg2, hcell2⟩ := HS2.out.pos (by omega)
              have h2 := hcell2 q hlt2
              have e1 : ((q : Int) == 20) = true := by rw [h20]; rfl
              clear hcell2 HS2 HR h20
              generalize R q = e at *
              obtain ⟨ea, en, ec, ef⟩ := e
              simp only [SlE.v] at h2
              go_wp2
              go_ret
              exact post_mk rfl (by (try show Ex _ _); repeat (first | (with_reducible exact ex_refl _) | (with_reducible assumption) | (with_reducible refine ex_drewL ?_) | (with_reducible refine ex_appR ?_ _) | (with_reducible refine ex_wx ?_ _) | (with_reducible refine ex_drew ?_) | (with_reducible refine ex_alloc ?_ _)))
end Go.Proofs.YtpcfkjeikhehaaaDoor

/- FrameReads: what it does. -/
set_option linter.unusedSimpArgs false
set_option linter.unusedVariables false
set_option maxRecDepth 20000
namespace Go.Proofs.YtpcfkjeikhehaaaDoor
open Go.RowKit
@[go_sem] theorem at_rows2 (cs : Array Value) (i : Int) (w : World) : (Instr.index 51 (.agg cs) (.int .i64 i)).run Tryd.prog w = if 0 ≤ i ∧ i < (2 : Nat) then (match cs[i.toNat]? with | some v => .ok v w | none => idxRaw Tryd.prog 51 (.agg cs) (.int .i64 i) w) else idxRaw Tryd.prog 51 (.agg cs) (.int .i64 i) w := index_one Tryd.underlying51 Tryd.underlying27 rfl (by kernel_rfl) cs i w
theorem dec_bd (l : List UInt8) : (decP l).1.es.length ≤ 8 ∧ (decP l).1.mb.length ≤ 5 ∧ (decP l).1.da.length ≤ 65536 := by
  by_cases h : (decP l).2 = 0
  · have hr := rightM_spec (dec_ok h).1
    exact ⟨hr.2.2.2.1, hr.2.2.2.2.1, hr.2.2.2.2.2.1⟩
  · rw [dec_no h]; exact ⟨by decide, by decide, by decide⟩
set_option maxHeartbeats 2000000 in
theorem reads_any (a2 : Option Addr) (n2 c2 : Nat) (R : Nat → SlE) (w : World) (G : FGlob w)
    (hn2 : n2 ≤ c2) (hc2 : c2 ≤ maxLen) (hs2 : SlV w a2 n2 (fun i => (R i).v)) (hR : ∀ i, i < n2 → (R i).ok w) :
    Calls Tryd.prog 7 #[.slice a2 n2 c2] w (Post w (.bool true)) := by
  unfold maxLen at hc2
  have HR := Lib.hid hR
  have HS2 := Lib.hid hs2
  have HD := Lib.hid (fun (l : List UInt8) v W (k : Ex w W) (hs : SlT W v l) (hl : l.length ≤ 900000) => And.intro (decode_any l v W (G.ex k) hs hl) (refdecode_any l v W hs hl))
  clear hR hs2
  go_enter Tryd.func7, Tryd.ntmps7
  go_wp2_with (go_at_call 9; (with_reducible refine (wakes_any _ (G.ex (by (try show Ex _ _); repeat (first | (with_reducible exact ex_refl _) | (with_reducible assumption) | (with_reducible refine ex_drewL ?_) | (with_reducible refine ex_appR ?_ _) | (with_reducible refine ex_wx ?_ _) | (with_reducible refine ex_drew ?_) | (with_reducible refine ex_alloc ?_ _))))).mono ?_); rintro e w' ⟨rfl, X, rfl⟩)
  go_loopw [16] (fun i wr => ∃ k : Nat, k ≤ n2 ∧ i = I k ∧ Ex w wr) (fun i _ => n2 - (intOf i).toNat)
  case atStart => exact ⟨0, by omega, rfl, (by (try show Ex _ _); repeat (first | (with_reducible exact ex_refl _) | (with_reducible assumption) | (with_reducible refine ex_drewL ?_) | (with_reducible refine ex_appR ?_ _) | (with_reducible refine ex_wx ?_ _) | (with_reducible refine ex_drew ?_) | (with_reducible refine ex_alloc ?_ _)))⟩
  case round =>
    obtain ⟨q, hq, rfl, X9, rfl⟩ := hrel
    by_cases hb : q < n2 ∧ q ≠ 6
    · obtain ⟨hlt2, h6⟩ := hb
      obtain ⟨gx, off2, rfl, hg2, hcell2⟩ := HS2.out.pos (by omega)
      have h2 := hcell2 q hlt2
      have hsl := slt_of_ok (HR.out q hlt2)
      clear hcell2
      generalize R q = e at *
      obtain ⟨ea, en, ec, ef⟩ := e
      simp only [SlE.v] at h2 hsl
      have hll := listF_len en ef
      generalize listF en ef = l at *
      have e1 : ((q : Int) == 6) = false := beq_eq_false_iff_ne.2 (by omega)
      clear h6
      have hcs : en ≤ ec := by obtain ⟨_, _, hv, h9, _⟩ := hsl.out; simp at hv; omega
      by_cases h4 : 4000 < en
      · have e4 : (4000 : Int) < en := by omega
        have e2 : (4000 : Int) ≤ ec := by omega
        have hl4 : (l.take 4000).length ≤ 4000 := by rw [List.length_take]; omega
        have HX : Hid (∀ W, Ex w W → SlT W (.slice ea 4000 ec) (l.take 4000)) := Lib.hid fun W k => (hsl.ex k).take 4000 (by omega)
        clear hsl
        generalize l.take 4000 = l4 at *
        go_wp2_with (first | (go_at_call 24; (with_reducible refine (cloneS_any l4 _ _ (HX.out _ (by (try show Ex _ _); repeat (first | (with_reducible exact ex_refl _) | (with_reducible assumption) | (with_reducible refine ex_drewL ?_) | (with_reducible refine ex_appR ?_ _) | (with_reducible refine ex_wx ?_ _) | (with_reducible refine ex_drew ?_) | (with_reducible refine ex_alloc ?_ _)))) (by omega)).mono ?_); rintro e w2 ⟨v1, rfl, ho1, kx1⟩; have K2 : Ex w w2 := ex_trans (by (try show Ex _ _); repeat (first | (with_reducible exact ex_refl _) | (with_reducible assumption) | (with_reducible refine ex_drewL ?_) | (with_reducible refine ex_appR ?_ _) | (with_reducible refine ex_wx ?_ _) | (with_reducible refine ex_drew ?_) | (with_reducible refine ex_alloc ?_ _))) kx1; clear kx1; obtain ⟨a1, c1, rfl, _⟩ := own_form ho1; replace ho1 := Lib.hid ho1) | (go_at_call 25; (with_reducible refine (refsealed_any l4 _ _ (HX.out _ (by (try show Ex _ _); repeat (first | (with_reducible exact ex_refl _) | (with_reducible assumption) | (with_reducible refine ex_drewL ?_) | (with_reducible refine ex_appR ?_ _) | (with_reducible refine ex_wx ?_ _) | (with_reducible refine ex_drew ?_) | (with_reducible refine ex_alloc ?_ _)))) (by omega)).mono ?_); rintro e w3 ⟨v2, rfl, ho2, kx2⟩; have K23 : Ex w2 w3 := ex_trans (by (try show Ex _ _); repeat (first | (with_reducible exact ex_refl _) | (with_reducible assumption) | (with_reducible refine ex_drewL ?_) | (with_reducible refine ex_appR ?_ _) | (with_reducible refine ex_wx ?_ _) | (with_reducible refine ex_drew ?_) | (with_reducible refine ex_alloc ?_ _))) kx2; have K3 : Ex w w3 := ex_trans K2 K23; clear kx2; obtain ⟨a2, c2, rfl, _⟩ := own_form ho2; replace ho2 := Lib.hid ho2))
        have hsll : (sealL l4).length ≤ 4100 := by rw [seal_len]; omega
        have HB1 : Hid (∀ W, Ex w3 W → SlT W (.slice a1 l4.length c1) l4) := Lib.hid fun W k => (ho1.out.slt).ex (ex_trans K23 k)
        have HB2 : Hid (∀ W, Ex w3 W → SlT W (.slice a2 (sealL l4).length c2) (sealL l4)) := Lib.hid fun W k => (ho2.out.slt).ex k
        clear ho1 ho2 HX HR HS2 h2 K23 K2
        generalize sealL l4 = s4 at *
        replace K3 := Lib.hid K3
        go_loopw [33] (fun i W => ∃ k : Nat, k ≤ 2 ∧ i = I k ∧ Hid (Ex w3 W)) (fun i _ => 2 - (intOf i).toNat)
        case atStart => exact ⟨0, by omega, rfl, Lib.hid (by (try show Ex _ _); repeat (first | (with_reducible exact ex_refl _) | (with_reducible assumption) | (with_reducible refine ex_drewL ?_) | (with_reducible refine ex_appR ?_ _) | (with_reducible refine ex_wx ?_ _) | (with_reducible refine ex_drew ?_) | (with_reducible refine ex_alloc ?_ _)))⟩
        case round =>
          obtain ⟨k, hk, rfl, hw3⟩ := hrel
          by_cases hlt : k < 2
          · have HIx : ∃ (lb : List UInt8) (ab : Option Addr) (cb : Nat), (∀ W, (Instr.index 51 (.agg #[.slice a1 l4.length c1, .slice a2 s4.length c2]) (.int .i64 k)).run Tryd.prog W = .ok (.slice ab lb.length cb) W) ∧ Hid (∀ W, Ex w3 W → SlT W (.slice ab lb.length cb) lb) ∧ lb.length ≤ 5000 := by
              rcases (show k = 0 ∨ k = 1 by omega) with rfl | rfl
              · exact ⟨l4, a1, c1, fun W => (at_rows2 _ _ W).trans (if_pos (by decide)), HB1, by omega⟩
              · exact ⟨s4, a2, c2, fun W => (at_rows2 _ _ W).trans (if_pos (by decide)), HB2, by omega⟩
            obtain ⟨lb, ab, cb, HI, HB, hlb⟩ := HIx
            clear HB1 HB2
            have hlt2 : ((k : Nat) : Int) < 2 := by omega
            obtain ⟨W0, hW0⟩ : ∃ W0, W0 = wr := ⟨_, rfl⟩
            rw [← hW0]
            rw [← hW0] at hw3
            clear hW0
            have HBr : Hid (∀ W, Ex W0 W → SlT W (.slice ab lb.length cb) lb) := Lib.hid fun W k => HB.out W (ex_trans hw3.out k)
            have HDr : Hid (∀ v W, Ex W0 W → SlT W v lb → Calls Tryd.prog 26 #[v] W (PostDec W (decP lb).1 (decP lb).2) ∧ Calls Tryd.prog 27 #[v] W (PostDec W (decP lb).1 (decP lb).2)) := Lib.hid fun v W k hs => HD.out lb v W (ex_trans K3.out (ex_trans hw3.out k)) hs (by omega)
            have hbd := dec_bd lb
            have hHD := HD
            clear HB HD
            generalize (decP lb).2 = er at *
            generalize (decP lb).1 = m at *
            obtain ⟨hb1, hb2, hb3⟩ := hbd
            go_wp2_with (first | (go_at_call 24; (with_reducible refine (cloneS_any lb _ _ (HBr.out _ (by (try show Ex _ _); repeat (first | (with_reducible exact ex_refl _) | (with_reducible assumption) | (with_reducible refine ex_drewL ?_) | (with_reducible refine ex_appR ?_ _) | (with_reducible refine ex_wx ?_ _) | (with_reducible refine ex_drew ?_) | (with_reducible refine ex_alloc ?_ _)))) (by omega)).mono ?_); rintro e w5 ⟨v7, rfl, ho7, kx7⟩; have K5 : Ex W0 w5 := ex_trans (by (try show Ex _ _); repeat (first | (with_reducible exact ex_refl _) | (with_reducible assumption) | (with_reducible refine ex_drewL ?_) | (with_reducible refine ex_appR ?_ _) | (with_reducible refine ex_wx ?_ _) | (with_reducible refine ex_drew ?_) | (with_reducible refine ex_alloc ?_ _))) kx7; clear kx7; obtain ⟨a7, c7, rfl, _⟩ := own_form ho7; replace ho7 := Lib.hid ho7.slt) | (go_at_call 26; (with_reducible refine (HDr.out _ _ (by (try show Ex _ _); repeat (first | (with_reducible exact ex_refl _) | (with_reducible assumption) | (with_reducible refine ex_drewL ?_) | (with_reducible refine ex_appR ?_ _) | (with_reducible refine ex_wx ?_ _) | (with_reducible refine ex_drew ?_) | (with_reducible refine ex_alloc ?_ _))) (HBr.out _ (by (try show Ex _ _); repeat (first | (with_reducible exact ex_refl _) | (with_reducible assumption) | (with_reducible refine ex_drewL ?_) | (with_reducible refine ex_appR ?_ _) | (with_reducible refine ex_wx ?_ _) | (with_reducible refine ex_drew ?_) | (with_reducible refine ex_alloc ?_ _))))).1.mono ?_); rintro e w6 ⟨u6, rfl, hm6, X6, rfl⟩; (try simp only [wx_wx, wx_drew] at hm6); obtain ⟨ev6, mv6, dv6, rfl, p1, p2, p3⟩ := id hm6.out; obtain ⟨f1, f2, f3, _⟩ := OwnE.form p1; obtain ⟨f4, f5, f6, _⟩ := own_form p2; obtain ⟨f7, f8, f9, _⟩ := own_form p3; clear p1 p2 p3; subst f3 f6 f9; replace hm6 := Lib.hid hm6) | (go_at_call 27; (with_reducible refine (HDr.out _ _ (by (try show Ex _ _); repeat (first | (with_reducible exact ex_refl _) | (with_reducible assumption) | (with_reducible refine ex_drewL ?_) | (with_reducible refine ex_appR ?_ _) | (with_reducible refine ex_wx ?_ _) | (with_reducible refine ex_drew ?_) | (with_reducible refine ex_alloc ?_ _))) (ho7.out.ex (by (try show Ex _ _); repeat (first | (with_reducible exact ex_refl _) | (with_reducible assumption) | (with_reducible refine ex_drewL ?_) | (with_reducible refine ex_appR ?_ _) | (with_reducible refine ex_wx ?_ _) | (with_reducible refine ex_drew ?_) | (with_reducible refine ex_alloc ?_ _))))).2.mono ?_); rintro e w8 ⟨u8, rfl, hm8, X8, rfl⟩; (try simp only [wx_wx, wx_drew] at hm8); obtain ⟨ev8, mv8, dv8, rfl, p1, p2, p3⟩ := id hm8.out; obtain ⟨g1, g2, g3, _⟩ := OwnE.form p1; obtain ⟨g4, g5, g6, _⟩ := own_form p2; obtain ⟨g7, g8, g9, _⟩ := own_form p3; clear p1 p2 p3; subst g3 g6 g9; replace hm8 := Lib.hid hm8.msv) | (go_at_call 21; (with_reducible refine (refsame_any m m _ _ _ (hm6.out.msv.ex (by (try show Ex _ _); repeat (first | (with_reducible exact ex_refl _) | (with_reducible assumption) | (with_reducible refine ex_drewL ?_) | (with_reducible refine ex_appR ?_ _) | (with_reducible refine ex_wx ?_ _) | (with_reducible refine ex_drew ?_) | (with_reducible refine ex_alloc ?_ _)))) (hm8.out.ex (by (try show Ex _ _); repeat (first | (with_reducible exact ex_refl _) | (with_reducible assumption) | (with_reducible refine ex_drewL ?_) | (with_reducible refine ex_appR ?_ _) | (with_reducible refine ex_wx ?_ _) | (with_reducible refine ex_drew ?_) | (with_reducible refine ex_alloc ?_ _))))).mono ?_); rw [sameM_self]; rintro e w' ⟨rfl, X9, rfl⟩) | (go_at_call 28; (with_reducible refine (spoil_any (Z := w5.heap.size) m _ _ (hm6.out.keep (by repeat (first | (with_reducible exact Keep.refl _ _) | (with_reducible refine Keep.ofSim ?_; ((repeat (first | (with_reducible exact Sim.refl _ _) | (with_reducible refine Sim.wx ?_ _) | (with_reducible refine Sim.alloc ?_ _) | (with_reducible refine Sim.turn ?_ _ _ (by simp [go_sem] <;> omega)))); done)) | (with_reducible refine Keep.allocR ?_ _) | (with_reducible refine Keep.appR ?_ _) | (with_reducible refine Keep.wxR ?_ _)))) (by simp [go_sem] <;> omega) (by omega) (by omega) (by omega)).mono ?_); rintro e w9 ⟨rfl, hB9⟩; have K9 : Ex w5 w9 := ex_of_below ((ex_below (by (try show Ex _ _); repeat (first | (with_reducible exact ex_refl _) | (with_reducible assumption) | (with_reducible refine ex_drewL ?_) | (with_reducible refine ex_appR ?_ _) | (with_reducible refine ex_wx ?_ _) | (with_reducible refine ex_drew ?_) | (with_reducible refine ex_alloc ?_ _)))).trans hB9); have K09 : Ex W0 w9 := ex_trans K5 K9; clear hB9) | (go_at_call 10; (with_reducible refine (sameL_any _ _ _ _ _ (HBr.out _ (by (try show Ex _ _); repeat (first | (with_reducible exact ex_refl _) | (with_reducible assumption) | (with_reducible refine ex_drewL ?_) | (with_reducible refine ex_appR ?_ _) | (with_reducible refine ex_wx ?_ _) | (with_reducible refine ex_drew ?_) | (with_reducible refine ex_alloc ?_ _)))) (ho7.out.ex (by (try show Ex _ _); repeat (first | (with_reducible exact ex_refl _) | (with_reducible assumption) | (with_reducible refine ex_drewL ?_) | (with_reducible refine ex_appR ?_ _) | (with_reducible refine ex_wx ?_ _) | (with_reducible refine ex_drew ?_) | (with_reducible refine ex_alloc ?_ _))))).mono ?_); rw [decide_eq_true rfl]; rintro e w10 ⟨rfl, X10, rfl⟩))
            exact ⟨⟨k + 1, by omega, by go_num, Lib.hid (ex_trans hw3.out (ex_trans K09 (by (try show Ex _ _); repeat (first | (with_reducible exact ex_refl _) | (with_reducible assumption) | (with_reducible refine ex_drewL ?_) | (with_reducible refine ex_appR ?_ _) | (with_reducible refine ex_wx ?_ _) | (with_reducible refine ex_drew ?_) | (with_reducible refine ex_alloc ?_ _)))))⟩, by simp [intOf]; omega⟩
          · obtain rfl : k = 2 := by omega
            clear hlt HB1 HB2
            go_wp2
            exact ⟨⟨q + 1, by omega, by go_num, Lib.hid (ex_trans K3.out (ex_trans hw3.out (by (try show Ex _ _); repeat (first | (with_reducible exact ex_refl _) | (with_reducible assumption) | (with_reducible refine ex_drewL ?_) | (with_reducible refine ex_appR ?_ _) | (with_reducible refine ex_wx ?_ _) | (with_reducible refine ex_drew ?_) | (with_reducible refine ex_alloc ?_ _)))))⟩, by simp [intOf]; omega⟩
      · have e4 : ¬ (4000 : Int) < en := by omega
        have HX : Hid (∀ W, Ex w W → SlT W (.slice ea en ec) l) := Lib.hid fun W k => hsl.ex k
        clear hsl
        have hl4 : l.length ≤ 4000 := by omega
        obtain ⟨l4, hl9⟩ : ∃ l4, l4 = l := ⟨_, rfl⟩
        rw [← hl9] at HX hl4
        clear hl9
        go_wp2_with (first | (go_at_call 24; (with_reducible refine (cloneS_any l4 _ _ (HX.out _ (by (try show Ex _ _); repeat (first | (with_reducible exact ex_refl _) | (with_reducible assumption) | (with_reducible refine ex_drewL ?_) | (with_reducible refine ex_appR ?_ _) | (with_reducible refine ex_wx ?_ _) | (with_reducible refine ex_drew ?_) | (with_reducible refine ex_alloc ?_ _)))) (by omega)).mono ?_); rintro e w2 ⟨v1, rfl, ho1, kx1⟩; have K2 : Ex w w2 := ex_trans (by (try show Ex _ _); repeat (first | (with_reducible exact ex_refl _) | (with_reducible assumption) | (with_reducible refine ex_drewL ?_) | (with_reducible refine ex_appR ?_ _) | (with_reducible refine ex_wx ?_ _) | (with_reducible refine ex_drew ?_) | (with_reducible refine ex_alloc ?_ _))) kx1; clear kx1; obtain ⟨a1, c1, rfl, _⟩ := own_form ho1; replace ho1 := Lib.hid ho1) | (go_at_call 25; (with_reducible refine (refsealed_any l4 _ _ (HX.out _ (by (try show Ex _ _); repeat (first | (with_reducible exact ex_refl _) | (with_reducible assumption) | (with_reducible refine ex_drewL ?_) | (with_reducible refine ex_appR ?_ _) | (with_reducible refine ex_wx ?_ _) | (with_reducible refine ex_drew ?_) | (with_reducible refine ex_alloc ?_ _)))) (by omega)).mono ?_); rintro e w3 ⟨v2, rfl, ho2, kx2⟩; have K23 : Ex w2 w3 := ex_trans (by (try show Ex _ _); repeat (first | (with_reducible exact ex_refl _) | (with_reducible assumption) | (with_reducible refine ex_drewL ?_) | (with_reducible refine ex_appR ?_ _) | (with_reducible refine ex_wx ?_ _) | (with_reducible refine ex_drew ?_) | (with_reducible refine ex_alloc ?_ _))) kx2; have K3 : Ex w w3 := ex_trans K2 K23; clear kx2; obtain ⟨a2, c2, rfl, _⟩ := own_form ho2; replace ho2 := Lib.hid ho2))
        have hsll : (sealL l4).length ≤ 4100 := by rw [seal_len]; omega
        have HB1 : Hid (∀ W, Ex w3 W → SlT W (.slice a1 l4.length c1) l4) := Lib.hid fun W k => (ho1.out.slt).ex (ex_trans K23 k)
        have HB2 : Hid (∀ W, Ex w3 W → SlT W (.slice a2 (sealL l4).length c2) (sealL l4)) := Lib.hid fun W k => (ho2.out.slt).ex k
        clear ho1 ho2 HX HR HS2 h2 K23 K2
        generalize sealL l4 = s4 at *
        replace K3 := Lib.hid K3
        go_loopw [33] (fun i W => ∃ k : Nat, k ≤ 2 ∧ i = I k ∧ Hid (Ex w3 W)) (fun i _ => 2 - (intOf i).toNat)
        case atStart => exact ⟨0, by omega, rfl, Lib.hid (by (try show Ex _ _); repeat (first | (with_reducible exact ex_refl _) | (with_reducible assumption) | (with_reducible refine ex_drewL ?_) | (with_reducible refine ex_appR ?_ _) | (with_reducible refine ex_wx ?_ _) | (with_reducible refine ex_drew ?_) | (with_reducible refine ex_alloc ?_ _)))⟩
        case round =>
          obtain ⟨k, hk, rfl, hw3⟩ := hrel
          by_cases hlt : k < 2
          · have HIx : ∃ (lb : List UInt8) (ab : Option Addr) (cb : Nat), (∀ W, (Instr.index 51 (.agg #[.slice a1 l4.length c1, .slice a2 s4.length c2]) (.int .i64 k)).run Tryd.prog W = .ok (.slice ab lb.length cb) W) ∧ Hid (∀ W, Ex w3 W → SlT W (.slice ab lb.length cb) lb) ∧ lb.length ≤ 5000 := by
              rcases (show k = 0 ∨ k = 1 by omega) with rfl | rfl
              · exact ⟨l4, a1, c1, fun W => (at_rows2 _ _ W).trans (if_pos (by decide)), HB1, by omega⟩
              · exact ⟨s4, a2, c2, fun W => (at_rows2 _ _ W).trans (if_pos (by decide)), HB2, by omega⟩
            obtain ⟨lb, ab, cb, HI, HB, hlb⟩ := HIx
            clear HB1 HB2
            have hlt2 : ((k : Nat) : Int) < 2 := by omega
            obtain ⟨W0, hW0⟩ : ∃ W0, W0 = wr := ⟨_, rfl⟩
            rw [← hW0]
            rw [← hW0] at hw3
            clear hW0
            have HBr : Hid (∀ W, Ex W0 W → SlT W (.slice ab lb.length cb) lb) := Lib.hid fun W k => HB.out W (ex_trans hw3.out k)
            have HDr : Hid (∀ v W, Ex W0 W → SlT W v lb → Calls Tryd.prog 26 #[v] W (PostDec W (decP lb).1 (decP lb).2) ∧ Calls Tryd.prog 27 #[v] W (PostDec W (decP lb).1 (decP lb).2)) := Lib.hid fun v W k hs => HD.out lb v W (ex_trans K3.out (ex_trans hw3.out k)) hs (by omega)
            have hbd := dec_bd lb
            have hHD := HD
            clear HB HD
            generalize (decP lb).2 = er at *
            generalize (decP lb).1 = m at *
            obtain ⟨hb1, hb2, hb3⟩ := hbd
            go_wp2_with (first | (go_at_call 24; (with_reducible refine (cloneS_any lb _ _ (HBr.out _ (by (try show Ex _ _); repeat (first | (with_reducible exact ex_refl _) | (with_reducible assumption) | (with_reducible refine ex_drewL ?_) | (with_reducible refine ex_appR ?_ _) | (with_reducible refine ex_wx ?_ _) | (with_reducible refine ex_drew ?_) | (with_reducible refine ex_alloc ?_ _)))) (by omega)).mono ?_); rintro e w5 ⟨v7, rfl, ho7, kx7⟩; have K5 : Ex W0 w5 := ex_trans (by (try show Ex _ _); repeat (first | (with_reducible exact ex_refl _) | (with_reducible assumption) | (with_reducible refine ex_drewL ?_) | (with_reducible refine ex_appR ?_ _) | (with_reducible refine ex_wx ?_ _) | (with_reducible refine ex_drew ?_) | (with_reducible refine ex_alloc ?_ _))) kx7; clear kx7; obtain ⟨a7, c7, rfl, _⟩ := own_form ho7; replace ho7 := Lib.hid ho7.slt) | (go_at_call 26; (with_reducible refine (HDr.out _ _ (by (try show Ex _ _); repeat (first | (with_reducible exact ex_refl _) | (with_reducible assumption) | (with_reducible refine ex_drewL ?_) | (with_reducible refine ex_appR ?_ _) | (with_reducible refine ex_wx ?_ _) | (with_reducible refine ex_drew ?_) | (with_reducible refine ex_alloc ?_ _))) (HBr.out _ (by (try show Ex _ _); repeat (first | (with_reducible exact ex_refl _) | (with_reducible assumption) | (with_reducible refine ex_drewL ?_) | (with_reducible refine ex_appR ?_ _) | (with_reducible refine ex_wx ?_ _) | (with_reducible refine ex_drew ?_) | (with_reducible refine ex_alloc ?_ _))))).1.mono ?_); rintro e w6 ⟨u6, rfl, hm6, X6, rfl⟩; (try simp only [wx_wx, wx_drew] at hm6); obtain ⟨ev6, mv6, dv6, rfl, p1, p2, p3⟩ := id hm6.out; obtain ⟨f1, f2, f3, _⟩ := OwnE.form p1; obtain ⟨f4, f5, f6, _⟩ := own_form p2; obtain ⟨f7, f8, f9, _⟩ := own_form p3; clear p1 p2 p3; subst f3 f6 f9; replace hm6 := Lib.hid hm6) | (go_at_call 27; (with_reducible refine (HDr.out _ _ (by (try show Ex _ _); repeat (first | (with_reducible exact ex_refl _) | (with_reducible assumption) | (with_reducible refine ex_drewL ?_) | (with_reducible refine ex_appR ?_ _) | (with_reducible refine ex_wx ?_ _) | (with_reducible refine ex_drew ?_) | (with_reducible refine ex_alloc ?_ _))) (ho7.out.ex (by (try show Ex _ _); repeat (first | (with_reducible exact ex_refl _) | (with_reducible assumption) | (with_reducible refine ex_drewL ?_) | (with_reducible refine ex_appR ?_ _) | (with_reducible refine ex_wx ?_ _) | (with_reducible refine ex_drew ?_) | (with_reducible refine ex_alloc ?_ _))))).2.mono ?_); rintro e w8 ⟨u8, rfl, hm8, X8, rfl⟩; (try simp only [wx_wx, wx_drew] at hm8); obtain ⟨ev8, mv8, dv8, rfl, p1, p2, p3⟩ := id hm8.out; obtain ⟨g1, g2, g3, _⟩ := OwnE.form p1; obtain ⟨g4, g5, g6, _⟩ := own_form p2; obtain ⟨g7, g8, g9, _⟩ := own_form p3; clear p1 p2 p3; subst g3 g6 g9; replace hm8 := Lib.hid hm8.msv) | (go_at_call 21; (with_reducible refine (refsame_any m m _ _ _ (hm6.out.msv.ex (by (try show Ex _ _); repeat (first | (with_reducible exact ex_refl _) | (with_reducible assumption) | (with_reducible refine ex_drewL ?_) | (with_reducible refine ex_appR ?_ _) | (with_reducible refine ex_wx ?_ _) | (with_reducible refine ex_drew ?_) | (with_reducible refine ex_alloc ?_ _)))) (hm8.out.ex (by (try show Ex _ _); repeat (first | (with_reducible exact ex_refl _) | (with_reducible assumption) | (with_reducible refine ex_drewL ?_) | (with_reducible refine ex_appR ?_ _) | (with_reducible refine ex_wx ?_ _) | (with_reducible refine ex_drew ?_) | (with_reducible refine ex_alloc ?_ _))))).mono ?_); rw [sameM_self]; rintro e w' ⟨rfl, X9, rfl⟩) | (go_at_call 28; (with_reducible refine (spoil_any (Z := w5.heap.size) m _ _ (hm6.out.keep (by repeat (first | (with_reducible exact Keep.refl _ _) | (with_reducible refine Keep.ofSim ?_; ((repeat (first | (with_reducible exact Sim.refl _ _) | (with_reducible refine Sim.wx ?_ _) | (with_reducible refine Sim.alloc ?_ _) | (with_reducible refine Sim.turn ?_ _ _ (by simp [go_sem] <;> omega)))); done)) | (with_reducible refine Keep.allocR ?_ _) | (with_reducible refine Keep.appR ?_ _) | (with_reducible refine Keep.wxR ?_ _)))) (by simp [go_sem] <;> omega) (by omega) (by omega) (by omega)).mono ?_); rintro e w9 ⟨rfl, hB9⟩; have K9 : Ex w5 w9 := ex_of_below ((ex_below (by (try show Ex _ _); repeat (first | (with_reducible exact ex_refl _) | (with_reducible assumption) | (with_reducible refine ex_drewL ?_) | (with_reducible refine ex_appR ?_ _) | (with_reducible refine ex_wx ?_ _) | (with_reducible refine ex_drew ?_) | (with_reducible refine ex_alloc ?_ _)))).trans hB9); have K09 : Ex W0 w9 := ex_trans K5 K9; clear hB9) | (go_at_call 10; (with_reducible refine (sameL_any _ _ _ _ _ (HBr.out _ (by (try show Ex _ _); repeat (first | (with_reducible exact ex_refl _) | (with_reducible assumption) | (with_reducible refine ex_drewL ?_) | (with_reducible refine ex_appR ?_ _) | (with_reducible refine ex_wx ?_ _) | (with_reducible refine ex_drew ?_) | (with_reducible refine ex_alloc ?_ _)))) (ho7.out.ex (by (try show Ex _ _); repeat (first | (with_reducible exact ex_refl _) | (with_reducible assumption) | (with_reducible refine ex_drewL ?_) | (with_reducible refine ex_appR ?_ _) | (with_reducible refine ex_wx ?_ _) | (with_reducible refine ex_drew ?_) | (with_reducible refine ex_alloc ?_ _))))).mono ?_); rw [decide_eq_true rfl]; rintro e w10 ⟨rfl, X10, rfl⟩))
            exact ⟨⟨k + 1, by omega, by go_num, Lib.hid (ex_trans hw3.out (ex_trans K09 (by (try show Ex _ _); repeat (first | (with_reducible exact ex_refl _) | (with_reducible assumption) | (with_reducible refine ex_drewL ?_) | (with_reducible refine ex_appR ?_ _) | (with_reducible refine ex_wx ?_ _) | (with_reducible refine ex_drew ?_) | (with_reducible refine ex_alloc ?_ _)))))⟩, by simp [intOf]; omega⟩
          · obtain rfl : k = 2 := by omega
            clear hlt HB1 HB2
            go_wp2
            exact ⟨⟨q + 1, by omega, by go_num, Lib.hid (ex_trans K3.out (ex_trans hw3.out (by (try show Ex _ _); repeat (first | (with_reducible exact ex_refl _) | (with_reducible assumption) | (with_reducible refine ex_drewL ?_) | (with_reducible refine ex_appR ?_ _) | (with_reducible refine ex_wx ?_ _) | (with_reducible refine ex_drew ?_) | (with_reducible refine ex_alloc ?_ _)))))⟩, by simp [intOf]; omega⟩
    · rcases (show q = n2 ∨ (q < n2 ∧ q = 6) by omega) with rfl | ⟨hlt2, h6⟩
      · go_wp2
        go_ret
        exact post_mk rfl (by (try show Ex _ _); repeat (first | (with_reducible exact ex_refl _) | (with_reducible assumption) | (with_reducible refine ex_drewL ?_) | (with_reducible refine ex_appR ?_ _) | (with_reducible refine ex_wx ?_ _) | (with_reducible refine ex_drew ?_) | (with_reducible refine ex_alloc ?_ _)))
      · obtain ⟨gx, off2, rfl, hg2, hcell2⟩ := HS2.out.pos (by omega)
        have h2 := hcell2 q hlt2
        have e1 : ((q : Int) == 6) = true := by rw [h6]; rfl
        clear hcell2 HS2 HR h6
        generalize R q = e at *
        obtain ⟨ea, en, ec, ef⟩ := e
        simp only [SlE.v] at h2
        go_wp2
        go_ret
        exact post_mk rfl (by (try show Ex _ _); repeat (first | (with_reducible exact ex_refl _) | (with_reducible assumption) | (with_reducible refine ex_drewL ?_) | (with_reducible refine ex_appR ?_ _) | (with_reducible refine ex_wx ?_ _) | (with_reducible refine ex_drew ?_) | (with_reducible refine ex_alloc ?_ _)))
end Go.Proofs.YtpcfkjeikhehaaaDoor
