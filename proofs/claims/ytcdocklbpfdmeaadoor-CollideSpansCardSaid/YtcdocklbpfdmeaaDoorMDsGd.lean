import Derived.Test.YtcdocklbpfdmeaaDoorMDsG
import Derived.Test.YtcdocklbpfdmeaaDoorMDsGb
import Derived.Test.YtcdocklbpfdmeaaDoorMDsGc
import Derived.Test.YtcdocklbpfdmeaaDoorMSpJ
import Derived.Test.YtcdocklbpfdmeaaDoorMDoA

/- Collide's document: Spans, where the span may be one for the range. -/
set_option linter.unusedSimpArgs false
set_option linter.unusedVariables false
set_option linter.unnecessarySimpa false
set_option maxRecDepth 20000
namespace Go.Proofs.YtcdocklbpfdmeaaDoor
open Go.RowKit
theorem dSpans_in (W : Nat) (hW : W ≤ 256) (l : List Pr) (la : Option Addr) (lc : Nat) (r : Rg) (T F : Nat) (ps : List Pr) (pa : Option Addr) (pc : Nat) (qs : List Dg) (qa : Option Addr) (qc : Nat) (w : World)
    (hr : rightP l = true) (hok : okP T F ps = true) (hen : endC r T F ps = true) (hlc : l.length ≤ lc) (hlm : lc ≤ maxLen) (hls : SlP w la l) (hpc : ps.length ≤ pc) (hpm : pc ≤ maxLen) (hPs : SlP w pa ps) (hqc : qs.length ≤ qc) (hqm : qc ≤ maxLen) (hQs : SlD w qa qs) :
    Calls Tryd.prog 51 #[I W, .slice la l.length lc, .agg (RC r), .agg #[I T, I F, .slice pa ps.length pc, .slice qa qs.length qc]] w (PostDs w (outS (sumW W) (isL (sumW W) l) T (spanTop (sumW W) l T F ps qs)) (amongL ps r)) := by
  by_cases h0 : T = 0
  · exact dSpans_a W hW l la lc r T F ps pa pc qs qa qc w hr hok hen hlc hlm hls hpc hpm hPs hqc hqm hQs h0
  · by_cases ht : T = l.length
    · exact dSpans_b W hW l la lc r T F ps pa pc qs qa qc w hr hok hen hlc hlm hls hpc hpm hPs hqc hqm hQs h0 ht
    · exact dSpans_c W hW l la lc r T F ps pa pc qs qa qc w hr hok hen hlc hlm hls hpc hpm hPs hqc hqm hQs h0 ht
end Go.Proofs.YtcdocklbpfdmeaaDoor

/- Collide's document: Spans. -/
set_option linter.unusedSimpArgs false
set_option linter.unusedVariables false
set_option linter.unnecessarySimpa false
set_option maxRecDepth 20000
namespace Go.Proofs.YtcdocklbpfdmeaaDoor
open Go.RowKit
theorem form_okP (r : Rg) (T F : Int) (ps : List Pr) : formC r T F ps = (okP T F ps && endC r T F ps) := by
  rw [form_split]
  unfold okP
  rw [Bool.and_assoc]
set_option maxHeartbeats 2000000 in
theorem dSpans_any (W : Int) (l : List Pr) (la : Option Addr) (lc : Nat) (r : Rg) (T F : Int) (ps : List Pr) (pa : Option Addr) (pc : Nat) (qs : List Dg) (qa : Option Addr) (qc : Nat) (w : World)
    (hlc : l.length ≤ lc) (hlm : lc ≤ maxLen) (hls : SlP w la l) (hpc : ps.length ≤ pc) (hpm : pc ≤ maxLen) (hPs : SlP w pa ps) (hqc : qs.length ≤ qc) (hqm : qc ≤ maxLen) (hQs : SlD w qa qs) :
    Calls Tryd.prog 51 #[I W, .slice la l.length lc, .agg (RC r), .agg #[I T, I F, .slice pa ps.length pc, .slice qa qs.length qc]] w (PostDs w (spansC W l r T F ps qs) (amongL ps r)) := by
  by_cases hg : rightP l = true ∧ formC r T F ps = true ∧ 0 ≤ W ∧ W ≤ 256
  · obtain ⟨h1, h2, h3, h4⟩ := hg
    have h2' := h2
    rw [form_okP, Bool.and_eq_true] at h2'
    obtain ⟨h5, h6⟩ := h2'
    obtain ⟨⟨k1, k2, k3, k4, k5, k6⟩, _, _⟩ := form_ok h2
    obtain ⟨Wn, rfl⟩ : ∃ N : Nat, W = N := ⟨W.toNat, by omega⟩
    obtain ⟨Tn, rfl⟩ : ∃ N : Nat, T = N := ⟨T.toNat, by omega⟩
    obtain ⟨Fn, rfl⟩ : ∃ N : Nat, F = N := ⟨F.toNat, by omega⟩
    have e : spansC Wn l r Tn Fn ps qs = outS (sumW Wn) (isL (sumW Wn) l) Tn (spanTop (sumW Wn) l Tn Fn ps qs) := by
      unfold spansC
      rw [if_pos ⟨h1, h2, h3, h4⟩, Int.toNat_natCast, Int.toNat_natCast]
    rw [e]
    exact dSpans_in Wn (by omega) l la lc r Tn Fn ps pa pc qs qa qc w h1 h5 h6 hlc hlm hls hpc hpm hPs hqc hqm hQs
  · have e : spansC W l r T F ps qs = (false, none) := by unfold spansC; rw [if_neg hg]
    rw [e]
    have HWd := Lib.hid fun w' => refwide_any W w'
    have HRt := Lib.hid fun w' (k : Ex w w') => Right_any l la lc w' hlc hlm (hls.ex k)
    have HFo := Lib.hid fun w' (k : Ex w w') => refformed_any T F ps pa pc qa qs.length qc w' hpc hpm (hPs.ex k)
    have HEn := Lib.hid fun (hok : okP T F ps = true) w' (k : Ex w w') => refends_any r T F ps pa pc qa qs.length qc w' (by unfold okP at hok; rw [Bool.and_eq_true, decide_eq_true_eq] at hok; omega) (by unfold okP at hok; rw [Bool.and_eq_true, decide_eq_true_eq] at hok; omega) (by unfold okP at hok; rw [Bool.and_eq_true, decide_eq_true_eq] at hok; omega) (by unfold okP at hok; rw [Bool.and_eq_true, decide_eq_true_eq] at hok; have := right_len2 hok.2; omega) hpc hpm (hPs.ex k)
    rw [form_okP] at hg
    have hw : (0 ≤ W ∧ W ≤ 256) ↔ wideB W = true := by unfold wideB; rw [decide_eq_true_eq]
    rw [hw] at hg
    clear hw e hls hPs hQs
    generalize wideB W = bw at HWd hg
    generalize rightP l = br at HRt hg
    generalize okP T F ps = bo at HFo HEn hg
    generalize endC r T F ps = be at HEn hg
    obtain ⟨lo, hi, op⟩ := r
    unfold RC at *
    dsimp only at *
    generalize amongL ps ⟨lo, hi, op⟩ = told
    generalize l.length = n at *
    generalize ps.length = pn at *
    generalize qs.length = qn at *
    unfold maxLen at hlm hpm hqm
    cases bw with
    | false =>
      clear HRt HFo HEn hg
      go_enter Tryd.func51, Tryd.ntmps51
      go_wp2_with (first | (go_at_call 25; (with_reducible refine (HWd.out _).mono ?_); rintro e w' ⟨rfl, X1, rfl⟩) | (go_at_call 45; (with_reducible refine (HRt.out _ (by (try show Ex _ _); with_reducible repeat (first | exact ex_refl _ | assumption | refine ex_drewL ?_ | refine ex_appR ?_ _ | refine ex_wx ?_ _ | refine ex_drew ?_ | refine ex_alloc ?_ _))).mono ?_); rintro e w' ⟨rfl, X2, rfl⟩) | (go_at_call 89; (with_reducible refine (HFo.out _ (by (try show Ex _ _); with_reducible repeat (first | exact ex_refl _ | assumption | refine ex_drewL ?_ | refine ex_appR ?_ _ | refine ex_wx ?_ _ | refine ex_drew ?_ | refine ex_alloc ?_ _))).mono ?_); rintro e w' ⟨rfl, X3, rfl⟩) | (go_at_call 90; (with_reducible refine (HEn.out _ (by (try show Ex _ _); with_reducible repeat (first | exact ex_refl _ | assumption | refine ex_drewL ?_ | refine ex_appR ?_ _ | refine ex_wx ?_ _ | refine ex_drew ?_ | refine ex_alloc ?_ _))).mono ?_); rintro e w' ⟨rfl, X4, rfl⟩))
      go_ret3
      exact postDs_none (by (try show Ex _ _); with_reducible repeat (first | exact ex_refl _ | assumption | refine ex_drewL ?_ | refine ex_appR ?_ _ | refine ex_wx ?_ _ | refine ex_drew ?_ | refine ex_alloc ?_ _))
    | true =>
      cases br with
      | false =>
        clear HFo HEn hg
        go_enter Tryd.func51, Tryd.ntmps51
        go_wp2_with (first | (go_at_call 25; (with_reducible refine (HWd.out _).mono ?_); rintro e w' ⟨rfl, X1, rfl⟩) | (go_at_call 45; (with_reducible refine (HRt.out _ (by (try show Ex _ _); with_reducible repeat (first | exact ex_refl _ | assumption | refine ex_drewL ?_ | refine ex_appR ?_ _ | refine ex_wx ?_ _ | refine ex_drew ?_ | refine ex_alloc ?_ _))).mono ?_); rintro e w' ⟨rfl, X2, rfl⟩) | (go_at_call 89; (with_reducible refine (HFo.out _ (by (try show Ex _ _); with_reducible repeat (first | exact ex_refl _ | assumption | refine ex_drewL ?_ | refine ex_appR ?_ _ | refine ex_wx ?_ _ | refine ex_drew ?_ | refine ex_alloc ?_ _))).mono ?_); rintro e w' ⟨rfl, X3, rfl⟩) | (go_at_call 90; (with_reducible refine (HEn.out _ (by (try show Ex _ _); with_reducible repeat (first | exact ex_refl _ | assumption | refine ex_drewL ?_ | refine ex_appR ?_ _ | refine ex_wx ?_ _ | refine ex_drew ?_ | refine ex_alloc ?_ _))).mono ?_); rintro e w' ⟨rfl, X4, rfl⟩))
        go_ret3
        exact postDs_none (by (try show Ex _ _); with_reducible repeat (first | exact ex_refl _ | assumption | refine ex_drewL ?_ | refine ex_appR ?_ _ | refine ex_wx ?_ _ | refine ex_drew ?_ | refine ex_alloc ?_ _))
      | true =>
        cases bo with
        | false =>
          clear HEn hg
          go_enter Tryd.func51, Tryd.ntmps51
          go_wp2_with (first | (go_at_call 25; (with_reducible refine (HWd.out _).mono ?_); rintro e w' ⟨rfl, X1, rfl⟩) | (go_at_call 45; (with_reducible refine (HRt.out _ (by (try show Ex _ _); with_reducible repeat (first | exact ex_refl _ | assumption | refine ex_drewL ?_ | refine ex_appR ?_ _ | refine ex_wx ?_ _ | refine ex_drew ?_ | refine ex_alloc ?_ _))).mono ?_); rintro e w' ⟨rfl, X2, rfl⟩) | (go_at_call 89; (with_reducible refine (HFo.out _ (by (try show Ex _ _); with_reducible repeat (first | exact ex_refl _ | assumption | refine ex_drewL ?_ | refine ex_appR ?_ _ | refine ex_wx ?_ _ | refine ex_drew ?_ | refine ex_alloc ?_ _))).mono ?_); rintro e w' ⟨rfl, X3, rfl⟩) | (go_at_call 90; (with_reducible refine (HEn.out _ (by (try show Ex _ _); with_reducible repeat (first | exact ex_refl _ | assumption | refine ex_drewL ?_ | refine ex_appR ?_ _ | refine ex_wx ?_ _ | refine ex_drew ?_ | refine ex_alloc ?_ _))).mono ?_); rintro e w' ⟨rfl, X4, rfl⟩))
          go_ret3
          exact postDs_none (by (try show Ex _ _); with_reducible repeat (first | exact ex_refl _ | assumption | refine ex_drewL ?_ | refine ex_appR ?_ _ | refine ex_wx ?_ _ | refine ex_drew ?_ | refine ex_alloc ?_ _))
        | true =>
          cases be with
          | false =>
            replace HEn := Lib.hid (HEn.out rfl)
            clear hg
            go_enter Tryd.func51, Tryd.ntmps51
            go_wp2_with (first | (go_at_call 25; (with_reducible refine (HWd.out _).mono ?_); rintro e w' ⟨rfl, X1, rfl⟩) | (go_at_call 45; (with_reducible refine (HRt.out _ (by (try show Ex _ _); with_reducible repeat (first | exact ex_refl _ | assumption | refine ex_drewL ?_ | refine ex_appR ?_ _ | refine ex_wx ?_ _ | refine ex_drew ?_ | refine ex_alloc ?_ _))).mono ?_); rintro e w' ⟨rfl, X2, rfl⟩) | (go_at_call 89; (with_reducible refine (HFo.out _ (by (try show Ex _ _); with_reducible repeat (first | exact ex_refl _ | assumption | refine ex_drewL ?_ | refine ex_appR ?_ _ | refine ex_wx ?_ _ | refine ex_drew ?_ | refine ex_alloc ?_ _))).mono ?_); rintro e w' ⟨rfl, X3, rfl⟩) | (go_at_call 90; (with_reducible refine (HEn.out _ (by (try show Ex _ _); with_reducible repeat (first | exact ex_refl _ | assumption | refine ex_drewL ?_ | refine ex_appR ?_ _ | refine ex_wx ?_ _ | refine ex_drew ?_ | refine ex_alloc ?_ _))).mono ?_); rintro e w' ⟨rfl, X4, rfl⟩))
            go_ret3
            exact postDs_none (by (try show Ex _ _); with_reducible repeat (first | exact ex_refl _ | assumption | refine ex_drewL ?_ | refine ex_appR ?_ _ | refine ex_wx ?_ _ | refine ex_drew ?_ | refine ex_alloc ?_ _))
          | true => exact absurd hg (by simp)
end Go.Proofs.YtcdocklbpfdmeaaDoor

/- Collide's document: Span. -/
set_option linter.unusedSimpArgs false
set_option linter.unusedVariables false
set_option linter.unnecessarySimpa false
set_option maxRecDepth 20000
namespace Go.Proofs.YtcdocklbpfdmeaaDoor
open Go.RowKit
theorem dspan_facts {w w2 : World} {lo hi : ByteArray} {op : Bool} {T F pv qv : Value} (k : Ex (((w.alloc (.cells #[.string lo, .string hi, .bool op] 24)).alloc (.cells #[T, F, pv, qv] 27)).alloc (.cells #[.slice none 0 0, .slice none 0 0] 37)) w2) :
    cellsN w2 w.heap.size 0 3 = some #[.string lo, .string hi, .bool op] ∧ w.heap.size < w2.heap.size ∧ cellsN w2 (w.heap.size + 1 + 1) 0 2 = some #[.slice none 0 0, .slice none 0 0] ∧ frozenN w2 (w.heap.size + 1 + 1) 0 2 = false ∧ w.heap.size + 1 + 1 < w2.heap.size ∧
      ∀ sa sb, cellsN (w2.setCells (w.heap.size + 1 + 1) 0 [sa, sb]) (w.heap.size + 1 + 1) 0 2 = some #[sa, sb] ∧ NoU w2 (fun b => b = w.heap.size + 1 + 1) := by
  have b0 := ex_block (ex_trans (ex_alloc (ex_alloc (ex_refl _) _) _) k) (heap_alloc_new w (.cells #[.string lo, .string hi, .bool op] 24))
  have b1 := ex_block k (heap_alloc_new ((w.alloc (.cells #[.string lo, .string hi, .bool op] 24)).alloc (.cells #[T, F, pv, qv] 27)) _)
  rw [World.size_alloc, World.size_alloc] at b1
  have c0 := block_cellsF (n := 3) b0 rfl
  have c := block_cellsF (n := 2) b1 rfl
  refine ⟨c0.1, c0.2.2, c.1, c.2.1, c.2.2, fun sa sb => ?_⟩
  have h6 := setCells_block (w.heap.size + 1 + 1) 37 (0, 0) [sa, sb] 0 w2 _ b1
  exact ⟨(block_cellsF (n := 2) h6 rfl).1, nou_type b1 (by decide)⟩
set_option maxHeartbeats 2000000 in
theorem dSpan_any (W : Int) (l : List Pr) (la : Option Addr) (lc : Nat) (r : Rg) (T F : Int) (ps : List Pr) (pa : Option Addr) (pc : Nat) (qs : List Dg) (qa : Option Addr) (qc : Nat) (w : World)
    (hlc : l.length ≤ lc) (hlm : lc ≤ maxLen) (hls : SlP w la l) (hpc : ps.length ≤ pc) (hpm : pc ≤ maxLen) (hPs : SlP w pa ps) (hqc : qs.length ≤ qc) (hqm : qc ≤ maxLen) (hQs : SlD w qa qs) :
    Calls Tryd.prog 52 #[I W, .slice la l.length lc, .agg (RC r), .agg #[I T, I F, .slice pa ps.length pc, .slice qa qs.length qc]] w (PostClT w (spanT W l r T F ps qs)) := by
  have HS := Lib.hid fun w' (k : Ex w w') => dSpans_any W l la lc r T F ps pa pc qs qa qc w' hlc hlm (hls.ex k) hpc hpm (hPs.ex k) hqc hqm (hQs.ex k)
  have hrest := spans_rest W l r T F ps qs
  have e0 : spanT W l r T F ps qs = tellC ((spansC W l r T F ps qs).1 && !decide (amongL ps r = amongL l r)) (spansC W l r T F ps qs).2 := rfl
  rw [e0]
  clear e0
  generalize spansC W l r T F ps qs = o at HS hrest ⊢
  obtain ⟨b, c⟩ := o
  simp only at hrest ⊢
  have HB : Hid (b = true → ∀ w', Ex w w' → Calls Tryd.prog 93 #[.slice la l.length lc, .agg (RC r)] w' (PostAm w' (amongL l r))) := Lib.hid fun h w' k => refamong_any r l la lc w' (hrest h).1 hlc hlm (hls.ex k)
  have HE := Lib.hid fun a1 a2 c1 c2 w' h1 h2 h3 h4 h5 h6 => sameC_any (amongL ps r) (amongL l r) a1 a2 c1 c2 w' h1 h2 h3 h4 h5 h6
  generalize decide (amongL ps r = amongL l r) = eq at HE ⊢
  generalize amongL ps r = am at HS HE
  generalize amongL l r = bm at HB HE
  generalize l.length = n at *
  generalize ps.length = pn at *
  generalize qs.length = qn at *
  clear hls hPs hQs hrest
  unfold maxLen at hlm hpm hqm
  obtain ⟨lo, hi, op⟩ := r
  unfold RC at HS HB ⊢
  dsimp only at HS HB ⊢
  cases b with
  | false =>
    rw [Bool.false_and]
    have e0 : tellC false c = none := rfl
    rw [e0]
    clear e0 HB HE
    have HS2 : Hid (∀ w', Ex w w' → Calls Tryd.prog 51 #[I W, .slice la n lc, .agg #[.string lo, .string hi, .bool op], .agg #[I T, I F, .slice pa pn pc, .slice qa qn qc]] w' (fun e w2 => ∃ v cv c', e = .returned (.tuple #[v, .bool false, cv]) ∧ Ex w' w2 ∧ OwnP w2 w'.heap.size v [] ∧ ClR w2 cv c' ∧ (false = true → c' = c))) := HS
    go_enter Tryd.func52, Tryd.ntmps52
    go_wp2_with (go_at_call 51; (with_reducible refine (HS2.out _ (by (try show Ex _ _); with_reducible repeat (first | exact ex_refl _ | assumption | refine ex_drewL ?_ | refine ex_appR ?_ _ | refine ex_wx ?_ _ | refine ex_drew ?_ | refine ex_alloc ?_ _))).mono ?_); rintro e w2 ⟨tv, cv, c', rfl, ⟨X, rfl⟩, htv, hcv, hcc⟩; dsimp only; obtain ⟨ta, tc, rfl, g1, g2, _, g4⟩ := htv.slg; clear htv; replace g4 := Lib.hid g4; replace hcv := Lib.hid hcv; clear hcc)
    exact ret_rowV (cs := #[.slice none 0 0, .slice none 0 0]) Tryd.results52 Tryd.underlying37 rfl info_clash rfl (by simp [go_sem]) rfl rfl (post_zero (by (try show Ex _ _); with_reducible repeat (first | exact ex_refl _ | assumption | refine ex_drewL ?_ | refine ex_appR ?_ _ | refine ex_wx ?_ _ | refine ex_drew ?_ | refine ex_alloc ?_ _)))
  | true =>
    rw [Bool.true_and]
    have HB2 := Lib.hid (HB.out rfl)
    clear HB
    cases eq with
    | true =>
      have HS2 : Hid (∀ w', Ex w w' → Calls Tryd.prog 51 #[I W, .slice la n lc, .agg #[.string lo, .string hi, .bool op], .agg #[I T, I F, .slice pa pn pc, .slice qa qn qc]] w' (fun e w2 => ∃ v cv c', e = .returned (.tuple #[v, .bool true, cv]) ∧ Ex w' w2 ∧ OwnP w2 w'.heap.size v am ∧ ClR w2 cv c' ∧ (true = true → c' = c))) := HS
      have e0 : tellC (!true) c = none := rfl
      rw [e0]
      clear e0 HS
      go_enter Tryd.func52, Tryd.ntmps52
      go_wp2_with (first | (go_at_call 51; (with_reducible refine (HS2.out _ (by (try show Ex _ _); with_reducible repeat (first | exact ex_refl _ | assumption | refine ex_drewL ?_ | refine ex_appR ?_ _ | refine ex_wx ?_ _ | refine ex_drew ?_ | refine ex_alloc ?_ _))).mono ?_); rintro e w2 ⟨tv, cv, c', rfl, ⟨X, rfl⟩, htv, hcv, hcc⟩; dsimp only; obtain ⟨ta, tc, rfl, g1, g2, _, g4⟩ := htv.slg; clear htv; replace g4 := Lib.hid g4; replace hcv := Lib.hid hcv; clear hcc) | (go_at_call 93; (with_reducible refine (HB2.out _ (by (try show Ex _ _); with_reducible repeat (first | exact ex_refl _ | assumption | refine ex_drewL ?_ | refine ex_appR ?_ _ | refine ex_wx ?_ _ | refine ex_drew ?_ | refine ex_alloc ?_ _))).mono ?_); rintro e w3 ⟨v2, rfl, hv2, X2, rfl⟩; (try simp only [wx_wx, wx_drew] at hv2); obtain ⟨a2, c2, rfl, k1, k2, _, k4⟩ := hv2.slg; clear hv2; replace k4 := Lib.hid k4) | (go_at_call 53; (with_reducible refine (HE.out _ _ _ _ _ g1 g2 k1 k2 (g4.out.ex (by (try show Ex _ _); with_reducible repeat (first | exact ex_refl _ | assumption | refine ex_drewL ?_ | refine ex_appR ?_ _ | refine ex_wx ?_ _ | refine ex_drew ?_ | refine ex_alloc ?_ _))) (k4.out.ex (by (try show Ex _ _); with_reducible repeat (first | exact ex_refl _ | assumption | refine ex_drewL ?_ | refine ex_appR ?_ _ | refine ex_wx ?_ _ | refine ex_drew ?_ | refine ex_alloc ?_ _)))).mono ?_); rintro e w4 ⟨rfl, X5, rfl⟩))
      exact ret_rowV (cs := #[.slice none 0 0, .slice none 0 0]) Tryd.results52 Tryd.underlying37 rfl info_clash rfl (by simp [go_sem]) rfl rfl (post_zero (by (try show Ex _ _); with_reducible repeat (first | exact ex_refl _ | assumption | refine ex_drewL ?_ | refine ex_appR ?_ _ | refine ex_wx ?_ _ | refine ex_drew ?_ | refine ex_alloc ?_ _)))
    | false =>
      have e0 : tellC (!false) c = c := rfl
      rw [e0]
      clear e0
      cases c with
      | none =>
        have HS2 : Hid (∀ w', Ex w w' → Calls Tryd.prog 51 #[I W, .slice la n lc, .agg #[.string lo, .string hi, .bool op], .agg #[I T, I F, .slice pa pn pc, .slice qa qn qc]] w' (fun e w2 => ∃ v cv c', e = .returned (.tuple #[v, .bool true, .slice none 0 0]) ∧ Ex w' w2 ∧ OwnP w2 w'.heap.size v am ∧ ClR w2 cv c' ∧ (true = true → c' = none))) := Lib.hid fun w' k => (HS.out w' k).mono fun e w2 ⟨v, cv, c', h1, h2, h3, h4, h5⟩ => by
          obtain rfl := h5 rfl
          have hcv : cv = .slice none 0 0 := h4
          subst hcv
          exact ⟨v, _, none, h1, h2, h3, h4, fun _ => rfl⟩
        clear HS
        go_enter Tryd.func52, Tryd.ntmps52
        go_wp2_with (first | (go_at_call 51; (with_reducible refine (HS2.out _ (by (try show Ex _ _); with_reducible repeat (first | exact ex_refl _ | assumption | refine ex_drewL ?_ | refine ex_appR ?_ _ | refine ex_wx ?_ _ | refine ex_drew ?_ | refine ex_alloc ?_ _))).mono ?_); rintro e w2 ⟨tv, cv, c', rfl, ⟨X, rfl⟩, htv, hcv, hcc⟩; dsimp only; obtain ⟨ta, tc, rfl, g1, g2, _, g4⟩ := htv.slg; clear htv; replace g4 := Lib.hid g4; replace hcv := Lib.hid hcv; clear hcc) | (go_at_call 93; (with_reducible refine (HB2.out _ (by (try show Ex _ _); with_reducible repeat (first | exact ex_refl _ | assumption | refine ex_drewL ?_ | refine ex_appR ?_ _ | refine ex_wx ?_ _ | refine ex_drew ?_ | refine ex_alloc ?_ _))).mono ?_); rintro e w3 ⟨v2, rfl, hv2, X2, rfl⟩; (try simp only [wx_wx, wx_drew] at hv2); obtain ⟨a2, c2, rfl, k1, k2, _, k4⟩ := hv2.slg; clear hv2; replace k4 := Lib.hid k4) | (go_at_call 53; (with_reducible refine (HE.out _ _ _ _ _ g1 g2 k1 k2 (g4.out.ex (by (try show Ex _ _); with_reducible repeat (first | exact ex_refl _ | assumption | refine ex_drewL ?_ | refine ex_appR ?_ _ | refine ex_wx ?_ _ | refine ex_drew ?_ | refine ex_alloc ?_ _))) (k4.out.ex (by (try show Ex _ _); with_reducible repeat (first | exact ex_refl _ | assumption | refine ex_drewL ?_ | refine ex_appR ?_ _ | refine ex_wx ?_ _ | refine ex_drew ?_ | refine ex_alloc ?_ _)))).mono ?_); rintro e w4 ⟨rfl, X5, rfl⟩))
        exact ret_rowV (cs := #[.slice none 0 0, .slice none 0 0]) Tryd.results52 Tryd.underlying37 rfl info_clash rfl (by simp [go_sem]) rfl rfl (post_zero (by (try show Ex _ _); with_reducible repeat (first | exact ex_refl _ | assumption | refine ex_drewL ?_ | refine ex_appR ?_ _ | refine ex_wx ?_ _ | refine ex_drew ?_ | refine ex_alloc ?_ _)))
      | some x =>
        have HS2 : Hid (∀ w', Ex w w' → Calls Tryd.prog 51 #[I W, .slice la n lc, .agg #[.string lo, .string hi, .bool op], .agg #[I T, I F, .slice pa pn pc, .slice qa qn qc]] w' (fun e w2 => ∃ v cv, e = .returned (.tuple #[v, .bool true, cv]) ∧ Ex w' w2 ∧ OwnP w2 w'.heap.size v am ∧ ClR w2 cv (some x))) := Lib.hid fun w' k => (HS.out w' k).mono fun e w2 ⟨v, cv, c', h1, h2, h3, h4, h5⟩ => by
          obtain rfl := h5 rfl
          exact ⟨v, cv, h1, h2, h3, h4⟩
        clear HS
        have HB := Lib.hid fun w2 => dspan_facts (w := w) (w2 := w2) (lo := lo) (hi := hi) (op := op) (T := I T) (F := I F) (pv := .slice pa pn pc) (qv := .slice qa qn qc)
        go_enter Tryd.func52, Tryd.ntmps52
        go_wp2_with (first | (go_at_call 51; (with_reducible refine (HS2.out _ (by (try show Ex _ _); with_reducible repeat (first | exact ex_refl _ | assumption | refine ex_drewL ?_ | refine ex_appR ?_ _ | refine ex_wx ?_ _ | refine ex_drew ?_ | refine ex_alloc ?_ _))).mono ?_); rintro e w2 ⟨tv, cv, rfl, kk, htv, hc2⟩; dsimp only; obtain ⟨ta, tc, rfl, g1, g2, _, g4⟩ := htv.slg; clear htv; replace g4 := Lib.hid g4; obtain ⟨gq, cap, sa, sb, rfl, hcap1, hcap2, hz2, hcl, hsa, hsb⟩ := clr_cells hc2; have o1 := ownu_one hsa; have o2 := ownu_one hsb; obtain ⟨f0, fz, f6, f7, f8, f9⟩ := HB.out w2 kk; obtain ⟨f5, u9⟩ := f9 sa sb; replace u9 := Lib.hid u9; clear f9; replace hsa := Lib.hid hsa; replace hsb := Lib.hid hsb; clear hc2; have kw2 : Ex w w2 := ex_trans (by (try show Ex _ _); with_reducible repeat (first | exact ex_refl _ | assumption | refine ex_drewL ?_ | refine ex_appR ?_ _ | refine ex_wx ?_ _ | refine ex_drew ?_ | refine ex_alloc ?_ _)) kk; replace kk := Lib.hid kk) | (go_at_call 93; (with_reducible refine (HB2.out _ (ex_trans kw2 (by (try show Ex _ _); with_reducible repeat (first | exact ex_refl _ | assumption | refine ex_drewL ?_ | refine ex_appR ?_ _ | refine ex_wx ?_ _ | refine ex_drew ?_ | refine ex_alloc ?_ _)))).mono ?_); rintro e w3 ⟨v2, rfl, hv2, X2, rfl⟩; (try simp only [wx_wx, wx_drew] at hv2); obtain ⟨a2, c2, rfl, k1, k2, _, k4⟩ := hv2.slg; clear hv2; replace k4 := Lib.hid k4) | (go_at_call 53; (with_reducible refine (HE.out _ _ _ _ _ g1 g2 k1 k2 (g4.out.ex (by (try show Ex _ _); with_reducible repeat (first | exact ex_refl _ | assumption | refine ex_drewL ?_ | refine ex_appR ?_ _ | refine ex_wx ?_ _ | refine ex_drew ?_ | refine ex_alloc ?_ _))) (k4.out.ex (by (try show Ex _ _); with_reducible repeat (first | exact ex_refl _ | assumption | refine ex_drewL ?_ | refine ex_appR ?_ _ | refine ex_wx ?_ _ | refine ex_drew ?_ | refine ex_alloc ?_ _)))).mono ?_); rintro e w4 ⟨rfl, X5, rfl⟩))
        have kF := frm_sets (w := w2) (r := w.heap.size + 1 + 1) 0 [sa, sb]
        refine ret_rowV (cs := #[sa, sb]) Tryd.results52 Tryd.underlying37 rfl info_clash rfl (by first | (simp [go_sem, f6, f8]; done) | (simp [go_sem]; rw [if_pos f8]; exact f5)) rfl rfl ⟨_, _, rfl, ex_wx (kF.exA kw2 (by omega)) _, (hsa.out.frm u9.out kF).ex (by (try show Ex _ _); with_reducible repeat (first | exact ex_refl _ | assumption | refine ex_drewL ?_ | refine ex_appR ?_ _ | refine ex_wx ?_ _ | refine ex_drew ?_ | refine ex_alloc ?_ _)), (hsb.out.frm u9.out kF).ex (by (try show Ex _ _); with_reducible repeat (first | exact ex_refl _ | assumption | refine ex_drewL ?_ | refine ex_appR ?_ _ | refine ex_wx ?_ _ | refine ex_drew ?_ | refine ex_alloc ?_ _))⟩
end Go.Proofs.YtcdocklbpfdmeaaDoor
