import Derived.Test.YtcdocklbpfdmeaaDoorMDsG

/- Collide's document: Spans, all the pairs. -/
set_option linter.unusedSimpArgs false
set_option linter.unusedVariables false
set_option linter.unnecessarySimpa false
set_option maxRecDepth 20000
namespace Go.Proofs.YtcdocklbpfdmeaaDoor
open Go.RowKit

set_option maxHeartbeats 16000000 in
theorem dSpans_b (W : Nat) (hW : W ≤ 256) (l : List Pr) (la : Option Addr) (lc : Nat) (r : Rg) (T F : Nat) (ps : List Pr) (pa : Option Addr) (pc : Nat) (qs : List Dg) (qa : Option Addr) (qc : Nat) (w : World)
    (hr : rightP l = true) (hok : okP T F ps = true) (hen : endC r T F ps = true) (hlc : l.length ≤ lc) (hlm : lc ≤ maxLen) (hls : SlP w la l) (hpc : ps.length ≤ pc) (hpm : pc ≤ maxLen) (hPs : SlP w pa ps) (hqc : qs.length ≤ qc) (hqm : qc ≤ maxLen) (hQs : SlD w qa qs) (h0 : ¬ T = 0) (ht : T = l.length) :
    Calls Tryd.prog 51 #[I W, .slice la l.length lc, .agg (RC r), .agg #[I T, I F, .slice pa ps.length pc, .slice qa qs.length qc]] w (PostDs w (outS (sumW W) (isL (sumW W) l) T (spanTop (sumW W) l T F ps qs)) (amongL ps r)) := by
  have hln := right_len2 hr
  have hok' := hok
  unfold okP at hok'
  rw [Bool.and_eq_true, decide_eq_true_eq] at hok'
  obtain ⟨⟨k1, k2, k3, k4, k5, k6⟩, k7⟩ := hok'
  have hpn := right_len2 k7
  have HWd : Hid (∀ w', Calls Tryd.prog 25 #[I W] w' (Post w' (.bool true))) := Lib.hid fun w' => by
    have := refwide_any W w'
    rwa [show wideB W = true from decide_eq_true (by omega)] at this
  have HRt : Hid (∀ w', Ex w w' → Calls Tryd.prog 45 #[.slice la l.length lc] w' (Post w' (.bool true))) := Lib.hid fun w' k => by
    have := Right_any l la lc w' hlc hlm (hls.ex k)
    rwa [hr] at this
  have HFo : Hid (∀ w', Ex w w' → Calls Tryd.prog 89 #[.agg #[I T, I F, .slice pa ps.length pc, .slice qa qs.length qc]] w' (Post w' (.bool true))) := Lib.hid fun w' k => by
    have := refformed_any T F ps pa pc qa qs.length qc w' hpc hpm (hPs.ex k)
    rwa [hok] at this
  have HEn : Hid (∀ w', Ex w w' → Calls Tryd.prog 90 #[.agg (RC r), .agg #[I T, I F, .slice pa ps.length pc, .slice qa qs.length qc]] w' (Post w' (.bool true))) := Lib.hid fun w' k => by
    have := refends_any r T F ps pa pc qa qs.length qc w' (by omega) (by omega) (by omega) (by omega) hpc hpm (hPs.ex k)
    rwa [hen] at this
  have HSp : Hid (0 < T → ∀ w' p q, Ex w w' → w.heap.size ≤ p → w.heap.size ≤ q → Cd w' p none → Qd w w' q qs → Calls Tryd.prog 91 #[I W, .agg #[I T, I F, .slice pa ps.length pc, .slice qa qs.length qc], I 0, I T, .pointer (some ⟨q, 0, none⟩), (if T = l.length then .slice la l.length lc else .slice none 0 0), .pointer (some ⟨p, 0, none⟩)] w' (PostDT w p q w' (spanTop (sumW W) l T F ps qs))) := Lib.hid fun h0 w' p q k h1 h2 h3 h4 => by
    unfold spanTop
    rw [if_neg (show ¬ (T : Int) = 0 by omega), Int.toNat_natCast, Int.toNat_natCast]
    by_cases ht : T = l.length
    · rw [if_pos ht, if_pos (show (T : Int) = l.length by omega)]
      exact dspan_any hW rfl hPs (right_fit k7) (by omega) (by omega) hpc hpm h1 h2 T 0 qs l la lc none w' (by omega) (by omega) (Or.inl ht.symm) hlc hlm hls (right_fit hr) k h3 h4
    · rw [if_neg ht, if_neg (show ¬ (T : Int) = l.length by omega)]
      exact dspan_any hW rfl hPs (right_fit k7) (by omega) (by omega) hpc hpm h1 h2 T 0 qs [] none 0 none w' (by omega) (by omega) (Or.inr rfl) (Nat.le_refl _) (by unfold maxLen; omega) (SlP.nil _ _) (fun b hb => by cases hb) k h3 h4
  have HTop0 : Hid (T = 0 → spanTop (sumW W) l T F ps qs = some (zeroD, qs, none)) := Lib.hid fun h => by unfold spanTop; rw [if_pos (by omega)]
  have HCr := Lib.hid fun (t : Dg) w' => refcrownB_any T (by omega) t w'
  have HDg := Lib.hid fun (t : Dg) w' v (h : OwnU w' v (crownL T t)) => digest_any W hW h.slt (by have := crownL_len T t; omega)
  have HCw := Lib.hid fun w' (k : Ex w w') => refCrown_any W hW l la lc w' hr hlc hlm (hls.ex k)
  have HTp := Lib.hid fun w' (k : Ex w w') => reftopN_any W hW l.length l la lc w' rfl (by omega) hlc hlm (hls.ex k) (right_fit hr)
  have HCl := Lib.hid fun w' => refcrownB_any l.length (by omega) (topC (sumW W) zeroD leafL l) w'
  have HSt := Lib.hid fun (t : Dg) c w' p v u (h0 : Cd w' p c) (h1 : OwnU w' v (crownL T t)) (h2 : OwnU w' u (isL (sumW W) l)) => step_any W hW h0 h1 h2 (by have := crownL_len T t; omega) (by unfold isL; have := crownL_len l.length (topC (sumW W) zeroD leafL l); omega)
  have HAm := Lib.hid fun w' (k : Ex w w') => refamong_any r ps pa pc w' (by omega) hpc hpm (hPs.ex k)
  unfold crownC at HCw
  change Hid (∀ w', Calls _ _ _ w' (PostU w' (isL (sumW W) l))) at HCl
  change Hid (∀ w', Ex w w' → Calls _ _ _ w' (Post w' (.agg (rowB 32 (dF (sumW W (isL (sumW W) l))))))) at HCw
  generalize spanTop (sumW W) l T F ps qs = o at HSp HTop0 ⊢
  generalize isL (sumW W) l = is at HCl HSt HCw ⊢
  generalize topC (sumW W) zeroD leafL l = tp at HTp HCl
  generalize sumW W = S at HDg HCw HSt ⊢
  generalize amongL ps r = told at HAm ⊢
  obtain ⟨rr, hrr⟩ : ∃ rr, rr = outS S is T o := ⟨_, rfl⟩
  rw [← hrr]
  replace hrr := Lib.hid hrr
  have HQs := Lib.hid hQs
  obtain ⟨lo, hi, op⟩ := r
  unfold RC at *
  dsimp only at *
  clear hok hen hls hPs hQs hr k7 k4 k5 k6 k1 k2 k3 hpn
  generalize l.length = n at *
  generalize ps.length = pn at *
  unfold maxLen at hlm hpm
  have t0 : decide ((0 : Int) < T) = true := decide_eq_true (by omega)
  have t0' : decide (0 < T) = true := decide_eq_true (by omega)
  have HSq := Lib.hid (HSp.out (by omega))
  clear HSp HTop0 h0
  have t1 : ((T : Int) == n) = true := by rw [ht]; simp
  simp only [if_pos ht] at HSq
  clear ht
  go_enter Tryd.func51, Tryd.ntmps51
  go_wp2_with (first | (go_at_call 25; (with_reducible refine (HWd.out _).mono ?_); rintro e w' ⟨rfl, X1, rfl⟩) | (go_at_call 45; (with_reducible refine (HRt.out _ (by (try show Ex _ _); with_reducible repeat (first | exact ex_refl _ | assumption | refine ex_drewL ?_ | refine ex_appR ?_ _ | refine ex_wx ?_ _ | refine ex_drew ?_ | refine ex_alloc ?_ _))).mono ?_); rintro e w' ⟨rfl, X2, rfl⟩) | (go_at_call 89; (with_reducible refine (HFo.out _ (by (try show Ex _ _); with_reducible repeat (first | exact ex_refl _ | assumption | refine ex_drewL ?_ | refine ex_appR ?_ _ | refine ex_wx ?_ _ | refine ex_drew ?_ | refine ex_alloc ?_ _))).mono ?_); rintro e w' ⟨rfl, X3, rfl⟩) | (go_at_call 90; (with_reducible refine (HEn.out _ (by (try show Ex _ _); with_reducible repeat (first | exact ex_refl _ | assumption | refine ex_drewL ?_ | refine ex_appR ?_ _ | refine ex_wx ?_ _ | refine ex_drew ?_ | refine ex_alloc ?_ _))).mono ?_); rintro e w' ⟨rfl, X4, rfl⟩))
  refine wp_worldC fun B hB => ?_
  obtain ⟨p, hp⟩ : ∃ p, w.heap.size + 1 + 1 + (X1.blocks.length + X2.blocks.length + X3.blocks.length + X4.blocks.length) = p := ⟨_, rfl⟩
  have kwB : Ex w B := by rw [← hB]; exact (by (try show Ex _ _); with_reducible repeat (first | exact ex_refl _ | assumption | refine ex_drewL ?_ | refine ex_appR ?_ _ | refine ex_wx ?_ _ | refine ex_drew ?_ | refine ex_alloc ?_ _))
  have hb6 : B.heap[w.heap.size]? = some (.cells #[.string lo, .string hi, .bool op] 24 (0, 0)) := by rw [← hB]; exact ex_block (by (try show Ex _ _); with_reducible repeat (first | exact ex_refl _ | assumption | refine ex_drewL ?_ | refine ex_appR ?_ _ | refine ex_wx ?_ _ | refine ex_drew ?_ | refine ex_alloc ?_ _)) (heap_alloc_new w _)
  have hb7 : B.heap[w.heap.size + 1]? = some (.cells #[I T, I F, .slice pa pn pc, .slice qa qs.length qc] 27 (0, 0)) := by
    rw [← hB]
    refine ex_block (w := (w.alloc (.cells #[.string lo, .string hi, .bool op] 24)).alloc (.cells #[I T, I F, .slice pa pn pc, .slice qa qs.length qc] 27)) (by (try show Ex _ _); with_reducible repeat (first | exact ex_refl _ | assumption | refine ex_drewL ?_ | refine ex_appR ?_ _ | refine ex_wx ?_ _ | refine ex_drew ?_ | refine ex_alloc ?_ _)) ?_
    rw [← World.size_alloc w (.cells #[.string lo, .string hi, .bool op] 24)]
    exact heap_alloc_new _ _
  have KB : Cd B p none := by rw [← hB]; exact Cd.new' (by simp [go_sem]; omega)
  have hpw : w.heap.size + 1 < p := by omega
  rw [hp]
  clear hB hp
  obtain ⟨b6, hb6e⟩ : ∃ r, w.heap.size = r := ⟨_, rfl⟩
  obtain ⟨b7, hb7e⟩ : ∃ r, w.heap.size + 1 = r := ⟨_, rfl⟩
  rw [hb7e] at hb7 ⊢
  rw [hb6e] at hb6 ⊢
  have hd0 : w.heap.size ≤ b6 ∧ b6 < p ∧ w.heap.size ≤ b7 ∧ b7 < p := by omega
  clear hb6e hb7e hpw
  have hpB := KB.lt
  obtain ⟨u1, u2, u3, u4, u5, u6, u7⟩ := dS_box hb6 hb7
  refine wp_region_two (B) [.look 0, .look 1, .look 2, .two 3 4, .eff 5, .eff 6] (by (try show Ex _ _); with_reducible repeat (first | exact ex_refl _ | assumption | refine ex_drewL ?_ | refine ex_appR ?_ _ | refine ex_wx ?_ _ | refine ex_drew ?_ | refine ex_alloc ?_ _)) (by kernel_rfl) (by kernel_rfl) (fun _ _ d _ _ h => by cases d <;> exact h) ?_
  simp only [List.map_cons, List.map_nil, ixStp, nth]
  repeat (first | ((with_reducible refine wpTwo_look ?_); go_big_quiet_step (fail); (try (with_reducible refine wpQuiet_nil ?_))) | (with_reducible refine wpTwo_eff ?_) | ((with_reducible refine effT_F ?_ ?_); (focus rfl); go_simp) | ((with_reducible refine effT_T ?_ ?_); (focus rfl); (try dsimp only); go_wp2_with (fail); refine mixQ_mk (by (try show Ex _ _); with_reducible repeat (first | exact ex_refl _ | assumption | refine ex_drewL ?_ | refine ex_appR ?_ _ | refine ex_wx ?_ _ | refine ex_drew ?_ | refine ex_alloc ?_ _)) ?_))
  all_goals (with_reducible refine wpTwo_two ?_ ?_)
  all_goals repeat (first | ((with_reducible refine wpTwo_look ?_); go_big_quiet_step (fail); (try (with_reducible refine wpQuiet_nil ?_))) | (with_reducible refine wpTwo_eff ?_) | ((with_reducible refine effT_F ?_ ?_); (focus rfl); go_simp) | ((with_reducible refine effT_T ?_ ?_); (focus rfl); (try dsimp only); go_wp2_with (fail); refine mixQ_mk (by (try show Ex _ _); with_reducible repeat (first | exact ex_refl _ | assumption | refine ex_drewL ?_ | refine ex_appR ?_ _ | refine ex_wx ?_ _ | refine ex_drew ?_ | refine ex_alloc ?_ _)) ?_))
  all_goals (with_reducible refine wpTwo_nil ?_)
  ·
    refine exit_worldD fun C hC => ?_
    have kBC : Ex B C := by rw [← hC]; exact (by (try show Ex _ _); with_reducible repeat (first | exact ex_refl _ | assumption | refine ex_drewL ?_ | refine ex_appR ?_ _ | refine ex_wx ?_ _ | refine ex_drew ?_ | refine ex_alloc ?_ _))
    have grv : C.heap[B.heap.size]? = some (Obj.cells (rowB 32 fun _ => 0) 46 (0, 0)) := by rw [← hC]; exact ex_block (w := B.alloc (Obj.cells (rowB 32 fun _ => 0) 46)) (by (try show Ex _ _); with_reducible repeat (first | exact ex_refl _ | assumption | refine ex_drewL ?_ | refine ex_appR ?_ _ | refine ex_wx ?_ _ | refine ex_drew ?_ | refine ex_alloc ?_ _)) (heap_alloc_new B _)
    have gqv : C.heap[B.heap.size + 1]? = some (Obj.cells #[.slice qa qs.length qc] 25 (0, 0)) := by
      rw [← hC]
      refine ex_block (w := (B.alloc (Obj.cells (rowB 32 fun _ => 0) 46)).alloc (Obj.cells #[.slice qa qs.length qc] 25)) (by (try show Ex _ _); with_reducible repeat (first | exact ex_refl _ | assumption | refine ex_drewL ?_ | refine ex_appR ?_ _ | refine ex_wx ?_ _ | refine ex_drew ?_ | refine ex_alloc ?_ _)) ?_
      rw [← World.size_alloc B (Obj.cells (rowB 32 fun _ => 0) 46)]
      exact heap_alloc_new _ _
    obtain ⟨rv, hrv⟩ : ∃ r, B.heap.size = r := ⟨_, rfl⟩
    obtain ⟨qv, hqv⟩ : ∃ r, B.heap.size + 1 = r := ⟨_, rfl⟩
    rw [hqv] at gqv ⊢
    rw [hrv] at grv ⊢
    have hd : ((b6 ≠ p ∧ b6 ≠ qv ∧ b6 ≠ rv ∧ b7 ≠ p ∧ b7 ≠ qv ∧ b7 ≠ rv) ∧ rv ≠ p ∧ rv ≠ qv) ∧ w.heap.size ≤ p ∧ w.heap.size ≤ qv ∧ w.heap.size ≤ rv := by omega
    obtain ⟨hd, hwp, hwq, hwr⟩ := hd
    clear hC hrv hqv u1 u2 u3 u4 u5 u6 u7 hpB hd0
    have kwC := ex_trans kwB kBC
    have KC := KB.ex kBC
    have SC : Qd w C qv qs := ⟨qa, qc, gqv, hqc, hqm, HQs.out⟩
    replace hb6 := ex_block kBC hb6
    replace hb7 := ex_block kBC hb7
    obtain ⟨u1, u2, u3, u4, u5, u6, u7⟩ := dS_box hb6 hb7
    obtain ⟨n13, f13, z13⟩ := block_cellsF (n := 32) grv (by simp)
    have c14 := (block_cellF (o := 0) gqv rfl).1
    have z14 := cell_lt c14
    clear KB kwB kBC
    have tok1 : True := trivial
    have tok2 : True := trivial
    cases o with
    | none =>
      have HSd : Hid (∀ w' p q, Ex w w' → w.heap.size ≤ p → w.heap.size ≤ q → Cd w' p none → Qd w w' q qs → Calls Tryd.prog 91 #[I W, .agg #[I T, I F, .slice pa pn pc, .slice qa qs.length qc], I 0, I T, .pointer (some ⟨q, 0, none⟩), .slice la n lc, .pointer (some ⟨p, 0, none⟩)] w' (fun e w2 => e = .returned (.tuple #[.agg (rowB 32 fun _ => 0), .bool false]) ∧ FrQ p q w' w2)) := HSq
      go_wp2_with (first | (go_at_call 91; (with_reducible refine (HSd.out _ _ _ (ex_trans kwC (by (try show Ex _ _); with_reducible repeat (first | exact ex_refl _ | assumption | refine ex_drewL ?_ | refine ex_appR ?_ _ | refine ex_wx ?_ _ | refine ex_drew ?_ | refine ex_alloc ?_ _))) hwp hwq (KC.ex (by (try show Ex _ _); with_reducible repeat (first | exact ex_refl _ | assumption | refine ex_drewL ?_ | refine ex_appR ?_ _ | refine ex_wx ?_ _ | refine ex_drew ?_ | refine ex_alloc ?_ _))) (SC.ex (by (try show Ex _ _); with_reducible repeat (first | exact ex_refl _ | assumption | refine ex_drewL ?_ | refine ex_appR ?_ _ | refine ex_wx ?_ _ | refine ex_drew ?_ | refine ex_alloc ?_ _)))).mono ?_); rintro e w2 ⟨rfl, F2'⟩; have F2 : FrQ p qv C w2 := (Frm.ex (by (try show Ex _ _); with_reducible repeat (first | exact ex_refl _ | assumption | refine ex_drewL ?_ | refine ex_appR ?_ _ | refine ex_wx ?_ _ | refine ex_drew ?_ | refine ex_alloc ?_ _))).trans F2'; have kwD : Ex w w2 := FrQ.exA F2 kwC hwp hwq; have n23 := frQ_row grv F2 hd.2.1 hd.2.2; obtain ⟨n23, f23, z23⟩ := block_cellsF (n := 32) n23 (by simp); replace F2' := Lib.hid F2'))
      go_ret3
      rw [hrr.out, show outS S is T none = (false, none) from rfl]
      exact postDs_none (ex_setCells kwD hwr _ _)
    | some x =>
      obtain ⟨t, q', c'⟩ := x
      have HSd : Hid (∀ w' p q, Ex w w' → w.heap.size ≤ p → w.heap.size ≤ q → Cd w' p none → Qd w w' q qs → Calls Tryd.prog 91 #[I W, .agg #[I T, I F, .slice pa pn pc, .slice qa qs.length qc], I 0, I T, .pointer (some ⟨q, 0, none⟩), .slice la n lc, .pointer (some ⟨p, 0, none⟩)] w' (fun e w2 => e = .returned (.tuple #[.agg (rowB 32 (dF t)), .bool true]) ∧ FrQ p q w' w2 ∧ Cd w2 p c' ∧ Qd w w2 q q')) := HSq
      cases q' with
      | cons x r =>
        have hx : decide ((0 : Int) < (r.length : Int) + 1) = true := decide_eq_true (by omega)
        go_wp2_with (first | (go_at_call 91; (with_reducible refine (HSd.out _ _ _ (ex_trans kwC (by (try show Ex _ _); with_reducible repeat (first | exact ex_refl _ | assumption | refine ex_drewL ?_ | refine ex_appR ?_ _ | refine ex_wx ?_ _ | refine ex_drew ?_ | refine ex_alloc ?_ _))) hwp hwq (KC.ex (by (try show Ex _ _); with_reducible repeat (first | exact ex_refl _ | assumption | refine ex_drewL ?_ | refine ex_appR ?_ _ | refine ex_wx ?_ _ | refine ex_drew ?_ | refine ex_alloc ?_ _))) (SC.ex (by (try show Ex _ _); with_reducible repeat (first | exact ex_refl _ | assumption | refine ex_drewL ?_ | refine ex_appR ?_ _ | refine ex_wx ?_ _ | refine ex_drew ?_ | refine ex_alloc ?_ _)))).mono ?_); rintro e w2 ⟨rfl, F2', K2, S2⟩; have F2 : FrQ p qv C w2 := (Frm.ex (by (try show Ex _ _); with_reducible repeat (first | exact ex_refl _ | assumption | refine ex_drewL ?_ | refine ex_appR ?_ _ | refine ex_wx ?_ _ | refine ex_drew ?_ | refine ex_alloc ?_ _))).trans F2'; have kw2 : Ex w w2 := FrQ.exA F2 kwC hwp hwq; obtain ⟨⟨n23, f23, z23⟩, h36, h37, n33, KD, SD⟩ := dS_some (t := t) hb6 hb7 grv hd F2 K2 S2; have kwD : Ex w (w2.setCells rv 0 (rowB 32 (dF t)).toList) := ex_setCells kw2 hwr _ _; obtain ⟨v1, v2, v3, v4, v5, v6, v7⟩ := dS_box h36 h37; obtain ⟨qa3, qc3, h34, hqa3⟩ := SD.out; clear hqa3; have c34 := (block_cellF (o := 0) h34 rfl).1; (try rw [List.length_nil] at c34); have z34 := cell_lt c34; clear u1 u2 u3 u4 u5 u6 u7 n13 f13 z13 c14 z14 h34; replace h36 := Lib.hid h36; replace h37 := Lib.hid h37; replace F2' := Lib.hid F2'))
        go_ret3
        rw [hrr.out, outS_cons]
        exact postDs_none (ex_trans kwD (by (try show Ex _ _); with_reducible repeat (first | exact ex_refl _ | assumption | refine ex_drewL ?_ | refine ex_appR ?_ _ | refine ex_wx ?_ _ | refine ex_drew ?_ | refine ex_alloc ?_ _)))
      | nil =>
        have he := eqD (S (crownL T t)) (S is)
        obtain ⟨bb, hbb⟩ : ∃ bb, decide (S (crownL T t) = S is) = bb := ⟨_, rfl⟩
        rw [hbb] at he
        replace hbb := Lib.hid hbb
        cases bb with
        | false =>
          go_wp2_with (first | (go_at_call 91; (with_reducible refine (HSd.out _ _ _ (ex_trans kwC (by (try show Ex _ _); with_reducible repeat (first | exact ex_refl _ | assumption | refine ex_drewL ?_ | refine ex_appR ?_ _ | refine ex_wx ?_ _ | refine ex_drew ?_ | refine ex_alloc ?_ _))) hwp hwq (KC.ex (by (try show Ex _ _); with_reducible repeat (first | exact ex_refl _ | assumption | refine ex_drewL ?_ | refine ex_appR ?_ _ | refine ex_wx ?_ _ | refine ex_drew ?_ | refine ex_alloc ?_ _))) (SC.ex (by (try show Ex _ _); with_reducible repeat (first | exact ex_refl _ | assumption | refine ex_drewL ?_ | refine ex_appR ?_ _ | refine ex_wx ?_ _ | refine ex_drew ?_ | refine ex_alloc ?_ _)))).mono ?_); rintro e w2 ⟨rfl, F2', K2, S2⟩; have F2 : FrQ p qv C w2 := (Frm.ex (by (try show Ex _ _); with_reducible repeat (first | exact ex_refl _ | assumption | refine ex_drewL ?_ | refine ex_appR ?_ _ | refine ex_wx ?_ _ | refine ex_drew ?_ | refine ex_alloc ?_ _))).trans F2'; have kw2 : Ex w w2 := FrQ.exA F2 kwC hwp hwq; obtain ⟨⟨n23, f23, z23⟩, h36, h37, n33, KD, SD⟩ := dS_some (t := t) hb6 hb7 grv hd F2 K2 S2; have kwD : Ex w (w2.setCells rv 0 (rowB 32 (dF t)).toList) := ex_setCells kw2 hwr _ _; obtain ⟨v1, v2, v3, v4, v5, v6, v7⟩ := dS_box h36 h37; obtain ⟨qa3, qc3, h34, hqa3⟩ := SD.out; clear hqa3; have c34 := (block_cellF (o := 0) h34 rfl).1; (try rw [List.length_nil] at c34); have z34 := cell_lt c34; clear u1 u2 u3 u4 u5 u6 u7 n13 f13 z13 c14 z14 h34; replace h36 := Lib.hid h36; replace h37 := Lib.hid h37; replace F2' := Lib.hid F2') | (go_at_call 82; have _t := tok1; clear tok1; have z33 : rv < (w2.setCells rv 0 (rowB 32 (dF t)).toList).heap.size := (by rw [setCells_size]; exact z23); obtain ⟨D, hD⟩ : ∃ D, w2.setCells rv 0 (rowB 32 (dF t)).toList = D := ⟨_, rfl⟩; rw [hD] at z33 n33 KD SD kwD v1 v2 v3 v4 v5 v6 v7 c34 z34 h36 h37 ⊢; clear hD n23 f23 z23; (with_reducible refine (HCr.out t _).mono ?_); rintro e w3 ⟨y1, rfl, hy1, Y1, rfl⟩; (try simp only [wx_wx, wx_drew] at hy1)) | (go_at_call 26; (with_reducible refine (HDg.out t _ _ (OwnU.ex hy1 (by (try show Ex _ _); with_reducible repeat (first | exact ex_refl _ | assumption | refine ex_drewL ?_ | refine ex_appR ?_ _ | refine ex_wx ?_ _ | refine ex_drew ?_ | refine ex_alloc ?_ _)))).mono ?_); rintro e w3 ⟨rfl, Y2, rfl⟩) | (go_at_call 46; (with_reducible refine (HCw.out _ (ex_trans kwD (by (try show Ex _ _); with_reducible repeat (first | exact ex_refl _ | assumption | refine ex_drewL ?_ | refine ex_appR ?_ _ | refine ex_wx ?_ _ | refine ex_drew ?_ | refine ex_alloc ?_ _)))).mono ?_); rintro e w3 ⟨rfl, Y3, rfl⟩) | (go_at_call 82; have _t := tok2; clear tok2; (with_reducible refine (HCr.out t _).mono ?_); rintro e w3 ⟨y4, rfl, hy4, Y4, rfl⟩; (try simp only [wx_wx, wx_drew] at hy4)) | (go_at_call 83; (with_reducible refine (HTp.out _ (ex_trans kwD (by (try show Ex _ _); with_reducible repeat (first | exact ex_refl _ | assumption | refine ex_drewL ?_ | refine ex_appR ?_ _ | refine ex_wx ?_ _ | refine ex_drew ?_ | refine ex_alloc ?_ _)))).mono ?_); rintro e w3 ⟨rfl, Y5, rfl⟩) | (go_at_call 82; (with_reducible refine (HCl.out _).mono ?_); rintro e w3 ⟨y6, rfl, hy6, Y6, rfl⟩; (try simp only [wx_wx, wx_drew] at hy6)) | (go_at_call 92; (with_reducible refine (HSt.out t _ _ _ _ _ (KD.ex (by (try show Ex _ _); with_reducible repeat (first | exact ex_refl _ | assumption | refine ex_drewL ?_ | refine ex_appR ?_ _ | refine ex_wx ?_ _ | refine ex_drew ?_ | refine ex_alloc ?_ _))) (OwnU.ex hy4 (by (try show Ex _ _); with_reducible repeat (first | exact ex_refl _ | assumption | refine ex_drewL ?_ | refine ex_appR ?_ _ | refine ex_wx ?_ _ | refine ex_drew ?_ | refine ex_alloc ?_ _))) (OwnU.ex hy6 (by (try show Ex _ _); with_reducible repeat (first | exact ex_refl _ | assumption | refine ex_drewL ?_ | refine ex_appR ?_ _ | refine ex_wx ?_ _ | refine ex_drew ?_ | refine ex_alloc ?_ _)))).mono ?_); rintro e w5 ⟨rfl, F5', K5⟩; have F5 : FrP p D w5 := (Frm.ex (by (try show Ex _ _); with_reducible repeat (first | exact ex_refl _ | assumption | refine ex_drewL ?_ | refine ex_appR ?_ _ | refine ex_wx ?_ _ | refine ex_drew ?_ | refine ex_alloc ?_ _))).trans F5'; have kw5 : Ex w w5 := F5.exA kwD hwp; obtain ⟨x1, x2, x3, x4, x5, x6, x7⟩ := dS_box (row_frm h36.out F5 hd.1.1) (row_frm h37.out F5 hd.1.2.2.2.1); obtain ⟨cv, hcb, hcr⟩ := K5.out; have n57 := (block_cellF (o := 0) hcb rfl).1; have z57 := cell_lt n57; replace hcr := Lib.hid hcr; replace F5' := Lib.hid F5'))
          go_ret3
          rw [hrr.out, outS_nil, hbb.out]
          exact postDs_none (ex_trans kwD (by (try show Ex _ _); with_reducible repeat (first | exact ex_refl _ | assumption | refine ex_drewL ?_ | refine ex_appR ?_ _ | refine ex_wx ?_ _ | refine ex_drew ?_ | refine ex_alloc ?_ _)))
        | true =>
          go_wp2_with (first | (go_at_call 91; (with_reducible refine (HSd.out _ _ _ (ex_trans kwC (by (try show Ex _ _); with_reducible repeat (first | exact ex_refl _ | assumption | refine ex_drewL ?_ | refine ex_appR ?_ _ | refine ex_wx ?_ _ | refine ex_drew ?_ | refine ex_alloc ?_ _))) hwp hwq (KC.ex (by (try show Ex _ _); with_reducible repeat (first | exact ex_refl _ | assumption | refine ex_drewL ?_ | refine ex_appR ?_ _ | refine ex_wx ?_ _ | refine ex_drew ?_ | refine ex_alloc ?_ _))) (SC.ex (by (try show Ex _ _); with_reducible repeat (first | exact ex_refl _ | assumption | refine ex_drewL ?_ | refine ex_appR ?_ _ | refine ex_wx ?_ _ | refine ex_drew ?_ | refine ex_alloc ?_ _)))).mono ?_); rintro e w2 ⟨rfl, F2', K2, S2⟩; have F2 : FrQ p qv C w2 := (Frm.ex (by (try show Ex _ _); with_reducible repeat (first | exact ex_refl _ | assumption | refine ex_drewL ?_ | refine ex_appR ?_ _ | refine ex_wx ?_ _ | refine ex_drew ?_ | refine ex_alloc ?_ _))).trans F2'; have kw2 : Ex w w2 := FrQ.exA F2 kwC hwp hwq; obtain ⟨⟨n23, f23, z23⟩, h36, h37, n33, KD, SD⟩ := dS_some (t := t) hb6 hb7 grv hd F2 K2 S2; have kwD : Ex w (w2.setCells rv 0 (rowB 32 (dF t)).toList) := ex_setCells kw2 hwr _ _; obtain ⟨v1, v2, v3, v4, v5, v6, v7⟩ := dS_box h36 h37; obtain ⟨qa3, qc3, h34, hqa3⟩ := SD.out; clear hqa3; have c34 := (block_cellF (o := 0) h34 rfl).1; (try rw [List.length_nil] at c34); have z34 := cell_lt c34; clear u1 u2 u3 u4 u5 u6 u7 n13 f13 z13 c14 z14 h34; replace h36 := Lib.hid h36; replace h37 := Lib.hid h37; replace F2' := Lib.hid F2') | (go_at_call 82; have _t := tok1; clear tok1; have z33 : rv < (w2.setCells rv 0 (rowB 32 (dF t)).toList).heap.size := (by rw [setCells_size]; exact z23); obtain ⟨D, hD⟩ : ∃ D, w2.setCells rv 0 (rowB 32 (dF t)).toList = D := ⟨_, rfl⟩; rw [hD] at z33 n33 KD SD kwD v1 v2 v3 v4 v5 v6 v7 c34 z34 h36 h37 ⊢; clear hD n23 f23 z23; (with_reducible refine (HCr.out t _).mono ?_); rintro e w3 ⟨y1, rfl, hy1, Y1, rfl⟩; (try simp only [wx_wx, wx_drew] at hy1)) | (go_at_call 26; (with_reducible refine (HDg.out t _ _ (OwnU.ex hy1 (by (try show Ex _ _); with_reducible repeat (first | exact ex_refl _ | assumption | refine ex_drewL ?_ | refine ex_appR ?_ _ | refine ex_wx ?_ _ | refine ex_drew ?_ | refine ex_alloc ?_ _)))).mono ?_); rintro e w3 ⟨rfl, Y2, rfl⟩) | (go_at_call 46; (with_reducible refine (HCw.out _ (ex_trans kwD (by (try show Ex _ _); with_reducible repeat (first | exact ex_refl _ | assumption | refine ex_drewL ?_ | refine ex_appR ?_ _ | refine ex_wx ?_ _ | refine ex_drew ?_ | refine ex_alloc ?_ _)))).mono ?_); rintro e w3 ⟨rfl, Y3, rfl⟩) | (go_at_call 82; have _t := tok2; clear tok2; (with_reducible refine (HCr.out t _).mono ?_); rintro e w3 ⟨y4, rfl, hy4, Y4, rfl⟩; (try simp only [wx_wx, wx_drew] at hy4)) | (go_at_call 83; (with_reducible refine (HTp.out _ (ex_trans kwD (by (try show Ex _ _); with_reducible repeat (first | exact ex_refl _ | assumption | refine ex_drewL ?_ | refine ex_appR ?_ _ | refine ex_wx ?_ _ | refine ex_drew ?_ | refine ex_alloc ?_ _)))).mono ?_); rintro e w3 ⟨rfl, Y5, rfl⟩) | (go_at_call 82; (with_reducible refine (HCl.out _).mono ?_); rintro e w3 ⟨y6, rfl, hy6, Y6, rfl⟩; (try simp only [wx_wx, wx_drew] at hy6)) | (go_at_call 92; (with_reducible refine (HSt.out t _ _ _ _ _ (KD.ex (by (try show Ex _ _); with_reducible repeat (first | exact ex_refl _ | assumption | refine ex_drewL ?_ | refine ex_appR ?_ _ | refine ex_wx ?_ _ | refine ex_drew ?_ | refine ex_alloc ?_ _))) (OwnU.ex hy4 (by (try show Ex _ _); with_reducible repeat (first | exact ex_refl _ | assumption | refine ex_drewL ?_ | refine ex_appR ?_ _ | refine ex_wx ?_ _ | refine ex_drew ?_ | refine ex_alloc ?_ _))) (OwnU.ex hy6 (by (try show Ex _ _); with_reducible repeat (first | exact ex_refl _ | assumption | refine ex_drewL ?_ | refine ex_appR ?_ _ | refine ex_wx ?_ _ | refine ex_drew ?_ | refine ex_alloc ?_ _)))).mono ?_); rintro e w5 ⟨rfl, F5', K5⟩; have F5 : FrP p D w5 := (Frm.ex (by (try show Ex _ _); with_reducible repeat (first | exact ex_refl _ | assumption | refine ex_drewL ?_ | refine ex_appR ?_ _ | refine ex_wx ?_ _ | refine ex_drew ?_ | refine ex_alloc ?_ _))).trans F5'; have kw5 : Ex w w5 := F5.exA kwD hwp; obtain ⟨x1, x2, x3, x4, x5, x6, x7⟩ := dS_box (row_frm h36.out F5 hd.1.1) (row_frm h37.out F5 hd.1.2.2.2.1); obtain ⟨cv, hcb, hcr⟩ := K5.out; have n57 := (block_cellF (o := 0) hcb rfl).1; have z57 := cell_lt n57; replace hcr := Lib.hid hcr; replace F5' := Lib.hid F5'))
          refine wp_region_seq [(0, true), (1, true), (2, true), (4, true), (3, false), (5, true), (6, true), (7, true)] (by kernel_rfl) (by kernel_rfl) (fun _ _ d _ _ h => by cases d <;> exact h) ?_
          simp only [List.map_cons, List.map_nil, nth]
          repeat (first | ((with_reducible refine wpSeq_look ?_); go_big_quiet_step (fail); (with_reducible refine wpQuiet_nil ?_)) | ((with_reducible refine wpSeq_effF ?_ ?_); (focus rfl); go_simp) | ((with_reducible refine wpSeq_eff ?_ ?_); (focus rfl); (try dsimp only); go_wp2_with ((go_at_call 93; (with_reducible refine (HAm.out _ (ex_trans kw5 (by (try show Ex _ _); with_reducible repeat (first | exact ex_refl _ | assumption | refine ex_drewL ?_ | refine ex_appR ?_ _ | refine ex_wx ?_ _ | refine ex_drew ?_ | refine ex_alloc ?_ _)))).mono ?_); rintro e w6 ⟨av, rfl, hav, Y7, rfl⟩; (try simp only [wx_wx, wx_drew] at hav))); refine mixQ_mk (by (try show Ex _ _); with_reducible repeat (first | exact ex_refl _ | assumption | refine ex_drewL ?_ | refine ex_appR ?_ _ | refine ex_wx ?_ _ | refine ex_drew ?_ | refine ex_alloc ?_ _)) ?_))
          refine wpSeq_nil ?_
          go_wp2
          go_ret3
          rw [hrr.out, outS_nil, hbb.out]
          exact ⟨_, cv, _, rfl, ex_trans kw5 (by (try show Ex _ _); with_reducible repeat (first | exact ex_refl _ | assumption | refine ex_drewL ?_ | refine ex_appR ?_ _ | refine ex_wx ?_ _ | refine ex_drew ?_ | refine ex_alloc ?_ _)), owns_le hav (by have := ex_size kw5; first | omega | (simp [go_sem]; omega)), hcr.out.ex (by (try show Ex _ _); with_reducible repeat (first | exact ex_refl _ | assumption | refine ex_drewL ?_ | refine ex_appR ?_ _ | refine ex_wx ?_ _ | refine ex_drew ?_ | refine ex_alloc ?_ _)), fun _ => rfl⟩
  ·
    refine exit_worldD fun C hC => ?_
    have kBC : Ex B C := by rw [← hC]; exact (by (try show Ex _ _); with_reducible repeat (first | exact ex_refl _ | assumption | refine ex_drewL ?_ | refine ex_appR ?_ _ | refine ex_wx ?_ _ | refine ex_drew ?_ | refine ex_alloc ?_ _))
    have gqv : C.heap[B.heap.size]? = some (Obj.cells #[.slice qa qs.length qc] 25 (0, 0)) := by rw [← hC]; exact ex_block (w := B.alloc (Obj.cells #[.slice qa qs.length qc] 25)) (by (try show Ex _ _); with_reducible repeat (first | exact ex_refl _ | assumption | refine ex_drewL ?_ | refine ex_appR ?_ _ | refine ex_wx ?_ _ | refine ex_drew ?_ | refine ex_alloc ?_ _)) (heap_alloc_new B _)
    have grv : C.heap[B.heap.size + 1]? = some (Obj.cells (rowB 32 fun _ => 0) 46 (0, 0)) := by
      rw [← hC]
      refine ex_block (w := (B.alloc (Obj.cells #[.slice qa qs.length qc] 25)).alloc (Obj.cells (rowB 32 fun _ => 0) 46)) (by (try show Ex _ _); with_reducible repeat (first | exact ex_refl _ | assumption | refine ex_drewL ?_ | refine ex_appR ?_ _ | refine ex_wx ?_ _ | refine ex_drew ?_ | refine ex_alloc ?_ _)) ?_
      rw [← World.size_alloc B (Obj.cells #[.slice qa qs.length qc] 25)]
      exact heap_alloc_new _ _
    obtain ⟨qv, hqv⟩ : ∃ r, B.heap.size = r := ⟨_, rfl⟩
    obtain ⟨rv, hrv⟩ : ∃ r, B.heap.size + 1 = r := ⟨_, rfl⟩
    rw [hrv] at grv ⊢
    rw [hqv] at gqv ⊢
    have hd : ((b6 ≠ p ∧ b6 ≠ qv ∧ b6 ≠ rv ∧ b7 ≠ p ∧ b7 ≠ qv ∧ b7 ≠ rv) ∧ rv ≠ p ∧ rv ≠ qv) ∧ w.heap.size ≤ p ∧ w.heap.size ≤ qv ∧ w.heap.size ≤ rv := by omega
    obtain ⟨hd, hwp, hwq, hwr⟩ := hd
    clear hC hqv hrv u1 u2 u3 u4 u5 u6 u7 hpB hd0
    have kwC := ex_trans kwB kBC
    have KC := KB.ex kBC
    have SC : Qd w C qv qs := ⟨qa, qc, gqv, hqc, hqm, HQs.out⟩
    replace hb6 := ex_block kBC hb6
    replace hb7 := ex_block kBC hb7
    obtain ⟨u1, u2, u3, u4, u5, u6, u7⟩ := dS_box hb6 hb7
    obtain ⟨n13, f13, z13⟩ := block_cellsF (n := 32) grv (by simp)
    have c14 := (block_cellF (o := 0) gqv rfl).1
    have z14 := cell_lt c14
    clear KB kwB kBC
    have tok1 : True := trivial
    have tok2 : True := trivial
    cases o with
    | none =>
      have HSd : Hid (∀ w' p q, Ex w w' → w.heap.size ≤ p → w.heap.size ≤ q → Cd w' p none → Qd w w' q qs → Calls Tryd.prog 91 #[I W, .agg #[I T, I F, .slice pa pn pc, .slice qa qs.length qc], I 0, I T, .pointer (some ⟨q, 0, none⟩), .slice la n lc, .pointer (some ⟨p, 0, none⟩)] w' (fun e w2 => e = .returned (.tuple #[.agg (rowB 32 fun _ => 0), .bool false]) ∧ FrQ p q w' w2)) := HSq
      go_wp2_with (first | (go_at_call 91; (with_reducible refine (HSd.out _ _ _ (ex_trans kwC (by (try show Ex _ _); with_reducible repeat (first | exact ex_refl _ | assumption | refine ex_drewL ?_ | refine ex_appR ?_ _ | refine ex_wx ?_ _ | refine ex_drew ?_ | refine ex_alloc ?_ _))) hwp hwq (KC.ex (by (try show Ex _ _); with_reducible repeat (first | exact ex_refl _ | assumption | refine ex_drewL ?_ | refine ex_appR ?_ _ | refine ex_wx ?_ _ | refine ex_drew ?_ | refine ex_alloc ?_ _))) (SC.ex (by (try show Ex _ _); with_reducible repeat (first | exact ex_refl _ | assumption | refine ex_drewL ?_ | refine ex_appR ?_ _ | refine ex_wx ?_ _ | refine ex_drew ?_ | refine ex_alloc ?_ _)))).mono ?_); rintro e w2 ⟨rfl, F2'⟩; have F2 : FrQ p qv C w2 := (Frm.ex (by (try show Ex _ _); with_reducible repeat (first | exact ex_refl _ | assumption | refine ex_drewL ?_ | refine ex_appR ?_ _ | refine ex_wx ?_ _ | refine ex_drew ?_ | refine ex_alloc ?_ _))).trans F2'; have kwD : Ex w w2 := FrQ.exA F2 kwC hwp hwq; have n23 := frQ_row grv F2 hd.2.1 hd.2.2; obtain ⟨n23, f23, z23⟩ := block_cellsF (n := 32) n23 (by simp); replace F2' := Lib.hid F2'))
      go_ret3
      rw [hrr.out, show outS S is T none = (false, none) from rfl]
      exact postDs_none (ex_setCells kwD hwr _ _)
    | some x =>
      obtain ⟨t, q', c'⟩ := x
      have HSd : Hid (∀ w' p q, Ex w w' → w.heap.size ≤ p → w.heap.size ≤ q → Cd w' p none → Qd w w' q qs → Calls Tryd.prog 91 #[I W, .agg #[I T, I F, .slice pa pn pc, .slice qa qs.length qc], I 0, I T, .pointer (some ⟨q, 0, none⟩), .slice la n lc, .pointer (some ⟨p, 0, none⟩)] w' (fun e w2 => e = .returned (.tuple #[.agg (rowB 32 (dF t)), .bool true]) ∧ FrQ p q w' w2 ∧ Cd w2 p c' ∧ Qd w w2 q q')) := HSq
      cases q' with
      | cons x r =>
        have hx : decide ((0 : Int) < (r.length : Int) + 1) = true := decide_eq_true (by omega)
        go_wp2_with (first | (go_at_call 91; (with_reducible refine (HSd.out _ _ _ (ex_trans kwC (by (try show Ex _ _); with_reducible repeat (first | exact ex_refl _ | assumption | refine ex_drewL ?_ | refine ex_appR ?_ _ | refine ex_wx ?_ _ | refine ex_drew ?_ | refine ex_alloc ?_ _))) hwp hwq (KC.ex (by (try show Ex _ _); with_reducible repeat (first | exact ex_refl _ | assumption | refine ex_drewL ?_ | refine ex_appR ?_ _ | refine ex_wx ?_ _ | refine ex_drew ?_ | refine ex_alloc ?_ _))) (SC.ex (by (try show Ex _ _); with_reducible repeat (first | exact ex_refl _ | assumption | refine ex_drewL ?_ | refine ex_appR ?_ _ | refine ex_wx ?_ _ | refine ex_drew ?_ | refine ex_alloc ?_ _)))).mono ?_); rintro e w2 ⟨rfl, F2', K2, S2⟩; have F2 : FrQ p qv C w2 := (Frm.ex (by (try show Ex _ _); with_reducible repeat (first | exact ex_refl _ | assumption | refine ex_drewL ?_ | refine ex_appR ?_ _ | refine ex_wx ?_ _ | refine ex_drew ?_ | refine ex_alloc ?_ _))).trans F2'; have kw2 : Ex w w2 := FrQ.exA F2 kwC hwp hwq; obtain ⟨⟨n23, f23, z23⟩, h36, h37, n33, KD, SD⟩ := dS_some (t := t) hb6 hb7 grv hd F2 K2 S2; have kwD : Ex w (w2.setCells rv 0 (rowB 32 (dF t)).toList) := ex_setCells kw2 hwr _ _; obtain ⟨v1, v2, v3, v4, v5, v6, v7⟩ := dS_box h36 h37; obtain ⟨qa3, qc3, h34, hqa3⟩ := SD.out; clear hqa3; have c34 := (block_cellF (o := 0) h34 rfl).1; (try rw [List.length_nil] at c34); have z34 := cell_lt c34; clear u1 u2 u3 u4 u5 u6 u7 n13 f13 z13 c14 z14 h34; replace h36 := Lib.hid h36; replace h37 := Lib.hid h37; replace F2' := Lib.hid F2'))
        go_ret3
        rw [hrr.out, outS_cons]
        exact postDs_none (ex_trans kwD (by (try show Ex _ _); with_reducible repeat (first | exact ex_refl _ | assumption | refine ex_drewL ?_ | refine ex_appR ?_ _ | refine ex_wx ?_ _ | refine ex_drew ?_ | refine ex_alloc ?_ _)))
      | nil =>
        have he := eqD (S (crownL T t)) (S is)
        obtain ⟨bb, hbb⟩ : ∃ bb, decide (S (crownL T t) = S is) = bb := ⟨_, rfl⟩
        rw [hbb] at he
        replace hbb := Lib.hid hbb
        cases bb with
        | false =>
          go_wp2_with (first | (go_at_call 91; (with_reducible refine (HSd.out _ _ _ (ex_trans kwC (by (try show Ex _ _); with_reducible repeat (first | exact ex_refl _ | assumption | refine ex_drewL ?_ | refine ex_appR ?_ _ | refine ex_wx ?_ _ | refine ex_drew ?_ | refine ex_alloc ?_ _))) hwp hwq (KC.ex (by (try show Ex _ _); with_reducible repeat (first | exact ex_refl _ | assumption | refine ex_drewL ?_ | refine ex_appR ?_ _ | refine ex_wx ?_ _ | refine ex_drew ?_ | refine ex_alloc ?_ _))) (SC.ex (by (try show Ex _ _); with_reducible repeat (first | exact ex_refl _ | assumption | refine ex_drewL ?_ | refine ex_appR ?_ _ | refine ex_wx ?_ _ | refine ex_drew ?_ | refine ex_alloc ?_ _)))).mono ?_); rintro e w2 ⟨rfl, F2', K2, S2⟩; have F2 : FrQ p qv C w2 := (Frm.ex (by (try show Ex _ _); with_reducible repeat (first | exact ex_refl _ | assumption | refine ex_drewL ?_ | refine ex_appR ?_ _ | refine ex_wx ?_ _ | refine ex_drew ?_ | refine ex_alloc ?_ _))).trans F2'; have kw2 : Ex w w2 := FrQ.exA F2 kwC hwp hwq; obtain ⟨⟨n23, f23, z23⟩, h36, h37, n33, KD, SD⟩ := dS_some (t := t) hb6 hb7 grv hd F2 K2 S2; have kwD : Ex w (w2.setCells rv 0 (rowB 32 (dF t)).toList) := ex_setCells kw2 hwr _ _; obtain ⟨v1, v2, v3, v4, v5, v6, v7⟩ := dS_box h36 h37; obtain ⟨qa3, qc3, h34, hqa3⟩ := SD.out; clear hqa3; have c34 := (block_cellF (o := 0) h34 rfl).1; (try rw [List.length_nil] at c34); have z34 := cell_lt c34; clear u1 u2 u3 u4 u5 u6 u7 n13 f13 z13 c14 z14 h34; replace h36 := Lib.hid h36; replace h37 := Lib.hid h37; replace F2' := Lib.hid F2') | (go_at_call 82; have _t := tok1; clear tok1; have z33 : rv < (w2.setCells rv 0 (rowB 32 (dF t)).toList).heap.size := (by rw [setCells_size]; exact z23); obtain ⟨D, hD⟩ : ∃ D, w2.setCells rv 0 (rowB 32 (dF t)).toList = D := ⟨_, rfl⟩; rw [hD] at z33 n33 KD SD kwD v1 v2 v3 v4 v5 v6 v7 c34 z34 h36 h37 ⊢; clear hD n23 f23 z23; (with_reducible refine (HCr.out t _).mono ?_); rintro e w3 ⟨y1, rfl, hy1, Y1, rfl⟩; (try simp only [wx_wx, wx_drew] at hy1)) | (go_at_call 26; (with_reducible refine (HDg.out t _ _ (OwnU.ex hy1 (by (try show Ex _ _); with_reducible repeat (first | exact ex_refl _ | assumption | refine ex_drewL ?_ | refine ex_appR ?_ _ | refine ex_wx ?_ _ | refine ex_drew ?_ | refine ex_alloc ?_ _)))).mono ?_); rintro e w3 ⟨rfl, Y2, rfl⟩) | (go_at_call 46; (with_reducible refine (HCw.out _ (ex_trans kwD (by (try show Ex _ _); with_reducible repeat (first | exact ex_refl _ | assumption | refine ex_drewL ?_ | refine ex_appR ?_ _ | refine ex_wx ?_ _ | refine ex_drew ?_ | refine ex_alloc ?_ _)))).mono ?_); rintro e w3 ⟨rfl, Y3, rfl⟩) | (go_at_call 82; have _t := tok2; clear tok2; (with_reducible refine (HCr.out t _).mono ?_); rintro e w3 ⟨y4, rfl, hy4, Y4, rfl⟩; (try simp only [wx_wx, wx_drew] at hy4)) | (go_at_call 83; (with_reducible refine (HTp.out _ (ex_trans kwD (by (try show Ex _ _); with_reducible repeat (first | exact ex_refl _ | assumption | refine ex_drewL ?_ | refine ex_appR ?_ _ | refine ex_wx ?_ _ | refine ex_drew ?_ | refine ex_alloc ?_ _)))).mono ?_); rintro e w3 ⟨rfl, Y5, rfl⟩) | (go_at_call 82; (with_reducible refine (HCl.out _).mono ?_); rintro e w3 ⟨y6, rfl, hy6, Y6, rfl⟩; (try simp only [wx_wx, wx_drew] at hy6)) | (go_at_call 92; (with_reducible refine (HSt.out t _ _ _ _ _ (KD.ex (by (try show Ex _ _); with_reducible repeat (first | exact ex_refl _ | assumption | refine ex_drewL ?_ | refine ex_appR ?_ _ | refine ex_wx ?_ _ | refine ex_drew ?_ | refine ex_alloc ?_ _))) (OwnU.ex hy4 (by (try show Ex _ _); with_reducible repeat (first | exact ex_refl _ | assumption | refine ex_drewL ?_ | refine ex_appR ?_ _ | refine ex_wx ?_ _ | refine ex_drew ?_ | refine ex_alloc ?_ _))) (OwnU.ex hy6 (by (try show Ex _ _); with_reducible repeat (first | exact ex_refl _ | assumption | refine ex_drewL ?_ | refine ex_appR ?_ _ | refine ex_wx ?_ _ | refine ex_drew ?_ | refine ex_alloc ?_ _)))).mono ?_); rintro e w5 ⟨rfl, F5', K5⟩; have F5 : FrP p D w5 := (Frm.ex (by (try show Ex _ _); with_reducible repeat (first | exact ex_refl _ | assumption | refine ex_drewL ?_ | refine ex_appR ?_ _ | refine ex_wx ?_ _ | refine ex_drew ?_ | refine ex_alloc ?_ _))).trans F5'; have kw5 : Ex w w5 := F5.exA kwD hwp; obtain ⟨x1, x2, x3, x4, x5, x6, x7⟩ := dS_box (row_frm h36.out F5 hd.1.1) (row_frm h37.out F5 hd.1.2.2.2.1); obtain ⟨cv, hcb, hcr⟩ := K5.out; have n57 := (block_cellF (o := 0) hcb rfl).1; have z57 := cell_lt n57; replace hcr := Lib.hid hcr; replace F5' := Lib.hid F5'))
          go_ret3
          rw [hrr.out, outS_nil, hbb.out]
          exact postDs_none (ex_trans kwD (by (try show Ex _ _); with_reducible repeat (first | exact ex_refl _ | assumption | refine ex_drewL ?_ | refine ex_appR ?_ _ | refine ex_wx ?_ _ | refine ex_drew ?_ | refine ex_alloc ?_ _)))
        | true =>
          go_wp2_with (first | (go_at_call 91; (with_reducible refine (HSd.out _ _ _ (ex_trans kwC (by (try show Ex _ _); with_reducible repeat (first | exact ex_refl _ | assumption | refine ex_drewL ?_ | refine ex_appR ?_ _ | refine ex_wx ?_ _ | refine ex_drew ?_ | refine ex_alloc ?_ _))) hwp hwq (KC.ex (by (try show Ex _ _); with_reducible repeat (first | exact ex_refl _ | assumption | refine ex_drewL ?_ | refine ex_appR ?_ _ | refine ex_wx ?_ _ | refine ex_drew ?_ | refine ex_alloc ?_ _))) (SC.ex (by (try show Ex _ _); with_reducible repeat (first | exact ex_refl _ | assumption | refine ex_drewL ?_ | refine ex_appR ?_ _ | refine ex_wx ?_ _ | refine ex_drew ?_ | refine ex_alloc ?_ _)))).mono ?_); rintro e w2 ⟨rfl, F2', K2, S2⟩; have F2 : FrQ p qv C w2 := (Frm.ex (by (try show Ex _ _); with_reducible repeat (first | exact ex_refl _ | assumption | refine ex_drewL ?_ | refine ex_appR ?_ _ | refine ex_wx ?_ _ | refine ex_drew ?_ | refine ex_alloc ?_ _))).trans F2'; have kw2 : Ex w w2 := FrQ.exA F2 kwC hwp hwq; obtain ⟨⟨n23, f23, z23⟩, h36, h37, n33, KD, SD⟩ := dS_some (t := t) hb6 hb7 grv hd F2 K2 S2; have kwD : Ex w (w2.setCells rv 0 (rowB 32 (dF t)).toList) := ex_setCells kw2 hwr _ _; obtain ⟨v1, v2, v3, v4, v5, v6, v7⟩ := dS_box h36 h37; obtain ⟨qa3, qc3, h34, hqa3⟩ := SD.out; clear hqa3; have c34 := (block_cellF (o := 0) h34 rfl).1; (try rw [List.length_nil] at c34); have z34 := cell_lt c34; clear u1 u2 u3 u4 u5 u6 u7 n13 f13 z13 c14 z14 h34; replace h36 := Lib.hid h36; replace h37 := Lib.hid h37; replace F2' := Lib.hid F2') | (go_at_call 82; have _t := tok1; clear tok1; have z33 : rv < (w2.setCells rv 0 (rowB 32 (dF t)).toList).heap.size := (by rw [setCells_size]; exact z23); obtain ⟨D, hD⟩ : ∃ D, w2.setCells rv 0 (rowB 32 (dF t)).toList = D := ⟨_, rfl⟩; rw [hD] at z33 n33 KD SD kwD v1 v2 v3 v4 v5 v6 v7 c34 z34 h36 h37 ⊢; clear hD n23 f23 z23; (with_reducible refine (HCr.out t _).mono ?_); rintro e w3 ⟨y1, rfl, hy1, Y1, rfl⟩; (try simp only [wx_wx, wx_drew] at hy1)) | (go_at_call 26; (with_reducible refine (HDg.out t _ _ (OwnU.ex hy1 (by (try show Ex _ _); with_reducible repeat (first | exact ex_refl _ | assumption | refine ex_drewL ?_ | refine ex_appR ?_ _ | refine ex_wx ?_ _ | refine ex_drew ?_ | refine ex_alloc ?_ _)))).mono ?_); rintro e w3 ⟨rfl, Y2, rfl⟩) | (go_at_call 46; (with_reducible refine (HCw.out _ (ex_trans kwD (by (try show Ex _ _); with_reducible repeat (first | exact ex_refl _ | assumption | refine ex_drewL ?_ | refine ex_appR ?_ _ | refine ex_wx ?_ _ | refine ex_drew ?_ | refine ex_alloc ?_ _)))).mono ?_); rintro e w3 ⟨rfl, Y3, rfl⟩) | (go_at_call 82; have _t := tok2; clear tok2; (with_reducible refine (HCr.out t _).mono ?_); rintro e w3 ⟨y4, rfl, hy4, Y4, rfl⟩; (try simp only [wx_wx, wx_drew] at hy4)) | (go_at_call 83; (with_reducible refine (HTp.out _ (ex_trans kwD (by (try show Ex _ _); with_reducible repeat (first | exact ex_refl _ | assumption | refine ex_drewL ?_ | refine ex_appR ?_ _ | refine ex_wx ?_ _ | refine ex_drew ?_ | refine ex_alloc ?_ _)))).mono ?_); rintro e w3 ⟨rfl, Y5, rfl⟩) | (go_at_call 82; (with_reducible refine (HCl.out _).mono ?_); rintro e w3 ⟨y6, rfl, hy6, Y6, rfl⟩; (try simp only [wx_wx, wx_drew] at hy6)) | (go_at_call 92; (with_reducible refine (HSt.out t _ _ _ _ _ (KD.ex (by (try show Ex _ _); with_reducible repeat (first | exact ex_refl _ | assumption | refine ex_drewL ?_ | refine ex_appR ?_ _ | refine ex_wx ?_ _ | refine ex_drew ?_ | refine ex_alloc ?_ _))) (OwnU.ex hy4 (by (try show Ex _ _); with_reducible repeat (first | exact ex_refl _ | assumption | refine ex_drewL ?_ | refine ex_appR ?_ _ | refine ex_wx ?_ _ | refine ex_drew ?_ | refine ex_alloc ?_ _))) (OwnU.ex hy6 (by (try show Ex _ _); with_reducible repeat (first | exact ex_refl _ | assumption | refine ex_drewL ?_ | refine ex_appR ?_ _ | refine ex_wx ?_ _ | refine ex_drew ?_ | refine ex_alloc ?_ _)))).mono ?_); rintro e w5 ⟨rfl, F5', K5⟩; have F5 : FrP p D w5 := (Frm.ex (by (try show Ex _ _); with_reducible repeat (first | exact ex_refl _ | assumption | refine ex_drewL ?_ | refine ex_appR ?_ _ | refine ex_wx ?_ _ | refine ex_drew ?_ | refine ex_alloc ?_ _))).trans F5'; have kw5 : Ex w w5 := F5.exA kwD hwp; obtain ⟨x1, x2, x3, x4, x5, x6, x7⟩ := dS_box (row_frm h36.out F5 hd.1.1) (row_frm h37.out F5 hd.1.2.2.2.1); obtain ⟨cv, hcb, hcr⟩ := K5.out; have n57 := (block_cellF (o := 0) hcb rfl).1; have z57 := cell_lt n57; replace hcr := Lib.hid hcr; replace F5' := Lib.hid F5'))
          refine wp_region_seq [(0, true), (1, true), (2, true), (4, true), (3, false), (5, true), (6, true), (7, true)] (by kernel_rfl) (by kernel_rfl) (fun _ _ d _ _ h => by cases d <;> exact h) ?_
          simp only [List.map_cons, List.map_nil, nth]
          repeat (first | ((with_reducible refine wpSeq_look ?_); go_big_quiet_step (fail); (with_reducible refine wpQuiet_nil ?_)) | ((with_reducible refine wpSeq_effF ?_ ?_); (focus rfl); go_simp) | ((with_reducible refine wpSeq_eff ?_ ?_); (focus rfl); (try dsimp only); go_wp2_with ((go_at_call 93; (with_reducible refine (HAm.out _ (ex_trans kw5 (by (try show Ex _ _); with_reducible repeat (first | exact ex_refl _ | assumption | refine ex_drewL ?_ | refine ex_appR ?_ _ | refine ex_wx ?_ _ | refine ex_drew ?_ | refine ex_alloc ?_ _)))).mono ?_); rintro e w6 ⟨av, rfl, hav, Y7, rfl⟩; (try simp only [wx_wx, wx_drew] at hav))); refine mixQ_mk (by (try show Ex _ _); with_reducible repeat (first | exact ex_refl _ | assumption | refine ex_drewL ?_ | refine ex_appR ?_ _ | refine ex_wx ?_ _ | refine ex_drew ?_ | refine ex_alloc ?_ _)) ?_))
          refine wpSeq_nil ?_
          go_wp2
          go_ret3
          rw [hrr.out, outS_nil, hbb.out]
          exact ⟨_, cv, _, rfl, ex_trans kw5 (by (try show Ex _ _); with_reducible repeat (first | exact ex_refl _ | assumption | refine ex_drewL ?_ | refine ex_appR ?_ _ | refine ex_wx ?_ _ | refine ex_drew ?_ | refine ex_alloc ?_ _)), owns_le hav (by have := ex_size kw5; first | omega | (simp [go_sem]; omega)), hcr.out.ex (by (try show Ex _ _); with_reducible repeat (first | exact ex_refl _ | assumption | refine ex_drewL ?_ | refine ex_appR ?_ _ | refine ex_wx ?_ _ | refine ex_drew ?_ | refine ex_alloc ?_ _)), fun _ => rfl⟩
end Go.Proofs.YtcdocklbpfdmeaaDoor
