import Derived.Test.YtbobamifpjlmiaaDoorMSRoots
import Derived.Test.YtbobamifpjlmiaaDoorMBackS

/- SearchBack: what it does. -/
set_option linter.unusedSimpArgs false
set_option linter.unusedVariables false
set_option maxRecDepth 20000
namespace Go.Proofs.YtbobamifpjlmiaaDoor
open Go.RowKit
/-- How many of a row stand in a range. -/
theorem filter_at (f : Pr → Bool) (l : List Pr) (k : Nat) (hk : k < l.length) (hf : f (prAt l k) = true) : (l.filter f)[((l.take k).filter f).length]? = some (prAt l k) := by
  have h : l = l.take k ++ prAt l k :: l.drop (k + 1) := by
    have h1 := List.take_append_drop k l
    rw [List.drop_eq_getElem_cons hk] at h1
    have h2 : prAt l k = l[k] := by simp [prAt, List.getD_eq_getElem?_getD, List.getElem?_eq_getElem hk]
    rw [h2]; exact h1.symm
  have e : l.filter f = (l.take k).filter f ++ (prAt l k :: (l.drop (k + 1)).filter f) := by
    conv => lhs; rw [h]
    rw [List.filter_append, List.filter_cons, if_pos hf]
  rw [e, List.getElem?_append_right (Nat.le_refl _), Nat.sub_self]; rfl
set_option maxHeartbeats 4000000 in
theorem sback_any (l : List Pr) (a : Option Addr) (c : Nat) (r : Rg) (w : World) (hc : l.length ≤ c) (hcm : c ≤ maxLen) (ha : a = none → c = 0) (hs : SlP w a l) (G : Glob w) :
    Calls Tryd.prog 12 #[.slice a l.length c, .agg (RC r)] w (Post w (.bool true)) := by
  have HW : Hid (∀ w', Ex w w' → Calls Tryd.prog 34 #[] w' (Post w' (.bool true))) := Lib.hid fun w' k => wakesP_any w' (G.ex k)
  have HO : Hid (∀ w', Ex w w' → Calls Tryd.prog 35 #[.slice a l.length c] w' (Post w' (.bool (overP l)))) := Lib.hid fun w' k => overP_any l a c w' hc hcm (hs.ex k)
  have HOR := Lib.hid (fun w' => overR_any r w')
  cases hov : overP l with
  | true =>
    rw [hov] at HO
    obtain ⟨lo, hi, op⟩ := r
    unfold RC at HOR ⊢
    simp only at HOR ⊢
    generalize l.length = n at *
    clear hs hov
    go_enter Tryd.func12, Tryd.ntmps12
    go_wp2_with (first | (go_at_call 34; (with_reducible refine (HW.out _ (by (try show Ex _ _); repeat (first | (with_reducible exact ex_refl _) | (with_reducible assumption) | (with_reducible refine ex_drewL ?_) | (with_reducible refine ex_appR ?_ _) | (with_reducible refine ex_wx ?_ _) | (with_reducible refine ex_drew ?_) | (with_reducible refine ex_alloc ?_ _)))).mono ?_); rintro e w2 ⟨rfl, X, rfl⟩) | (go_at_call 35; (with_reducible refine (HO.out _ (by (try show Ex _ _); repeat (first | (with_reducible exact ex_refl _) | (with_reducible assumption) | (with_reducible refine ex_drewL ?_) | (with_reducible refine ex_appR ?_ _) | (with_reducible refine ex_wx ?_ _) | (with_reducible refine ex_drew ?_) | (with_reducible refine ex_alloc ?_ _)))).mono ?_); rintro e w2 ⟨rfl, X, rfl⟩) | (go_at_call 36; (with_reducible refine (HOR.out _).mono ?_); rintro e w2 ⟨rfl, X, rfl⟩))
    go_ret
    exact post_mk rfl (by (try show Ex _ _); repeat (first | (with_reducible exact ex_refl _) | (with_reducible assumption) | (with_reducible refine ex_drewL ?_) | (with_reducible refine ex_appR ?_ _) | (with_reducible refine ex_wx ?_ _) | (with_reducible refine ex_drew ?_) | (with_reducible refine ex_alloc ?_ _)))
  | false =>
    rw [hov] at HO
    cases hor : overR r with
    | true =>
      rw [hor] at HOR
      obtain ⟨lo, hi, op⟩ := r
      unfold RC at HOR ⊢
      simp only at HOR ⊢
      generalize l.length = n at *
      clear hs hov hor
      go_enter Tryd.func12, Tryd.ntmps12
      go_wp2_with (first | (go_at_call 34; (with_reducible refine (HW.out _ (by (try show Ex _ _); repeat (first | (with_reducible exact ex_refl _) | (with_reducible assumption) | (with_reducible refine ex_drewL ?_) | (with_reducible refine ex_appR ?_ _) | (with_reducible refine ex_wx ?_ _) | (with_reducible refine ex_drew ?_) | (with_reducible refine ex_alloc ?_ _)))).mono ?_); rintro e w2 ⟨rfl, X, rfl⟩) | (go_at_call 35; (with_reducible refine (HO.out _ (by (try show Ex _ _); repeat (first | (with_reducible exact ex_refl _) | (with_reducible assumption) | (with_reducible refine ex_drewL ?_) | (with_reducible refine ex_appR ?_ _) | (with_reducible refine ex_wx ?_ _) | (with_reducible refine ex_drew ?_) | (with_reducible refine ex_alloc ?_ _)))).mono ?_); rintro e w2 ⟨rfl, X, rfl⟩) | (go_at_call 36; (with_reducible refine (HOR.out _).mono ?_); rintro e w2 ⟨rfl, X, rfl⟩))
      go_ret
      exact post_mk rfl (by (try show Ex _ _); repeat (first | (with_reducible exact ex_refl _) | (with_reducible assumption) | (with_reducible refine ex_drewL ?_) | (with_reducible refine ex_appR ?_ _) | (with_reducible refine ex_wx ?_ _) | (with_reducible refine ex_drew ?_) | (with_reducible refine ex_alloc ?_ _)))
    | false =>
      rw [hor] at HOR
      have hl3 := over_len hov
      have HRt : Hid (∀ w', Ex w w' → Calls Tryd.prog 37 #[.slice a l.length c] w' (Post w' (.tuple #[.agg (rowB 32 (dF (rootR l))), I (chkP l)]))) := Lib.hid fun w' k => sroot_any (G.ex k) l a c w' (ex_refl _) hc hcm (hs.ex k)
      unfold rootR chkP at HRt
      cases hr : rightP l with
      | false =>
        have HPb : Hid (∀ w', Ex w w' → Calls Tryd.prog 44 #[.slice a l.length c, .agg (RC r)] w' (PostSp w' 0 0 [] [] 250)) := Lib.hid fun w' k => provebad_any l r a c w' hc hcm (hs.ex k) hr
        rw [hr] at HRt
        simp only [Bool.false_eq_true, if_false] at HRt
        obtain ⟨lo, hi, op⟩ := r
        unfold RC at HOR HPb ⊢
        simp only at HOR HPb ⊢
        generalize l.length = n at *
        clear hs hov hor hr
        go_enter Tryd.func12, Tryd.ntmps12
        go_wp2_with (first | (go_at_call 34; (with_reducible refine (HW.out _ (by (try show Ex _ _); repeat (first | (with_reducible exact ex_refl _) | (with_reducible assumption) | (with_reducible refine ex_drewL ?_) | (with_reducible refine ex_appR ?_ _) | (with_reducible refine ex_wx ?_ _) | (with_reducible refine ex_drew ?_) | (with_reducible refine ex_alloc ?_ _)))).mono ?_); rintro e w2 ⟨rfl, X, rfl⟩) | (go_at_call 35; (with_reducible refine (HO.out _ (by (try show Ex _ _); repeat (first | (with_reducible exact ex_refl _) | (with_reducible assumption) | (with_reducible refine ex_drewL ?_) | (with_reducible refine ex_appR ?_ _) | (with_reducible refine ex_wx ?_ _) | (with_reducible refine ex_drew ?_) | (with_reducible refine ex_alloc ?_ _)))).mono ?_); rintro e w2 ⟨rfl, X, rfl⟩) | (go_at_call 36; (with_reducible refine (HOR.out _).mono ?_); rintro e w2 ⟨rfl, X, rfl⟩) | (go_at_call 37; (with_reducible refine (HRt.out _ (by (try show Ex _ _); repeat (first | (with_reducible exact ex_refl _) | (with_reducible assumption) | (with_reducible refine ex_drewL ?_) | (with_reducible refine ex_appR ?_ _) | (with_reducible refine ex_wx ?_ _) | (with_reducible refine ex_drew ?_) | (with_reducible refine ex_alloc ?_ _)))).mono ?_); rintro e w2 ⟨rfl, X, rfl⟩) | (go_at_call 44; (with_reducible refine (HPb.out _ (by (try show Ex _ _); repeat (first | (with_reducible exact ex_refl _) | (with_reducible assumption) | (with_reducible refine ex_drewL ?_) | (with_reducible refine ex_appR ?_ _) | (with_reducible refine ex_wx ?_ _) | (with_reducible refine ex_drew ?_) | (with_reducible refine ex_alloc ?_ _)))).mono ?_); rintro e w2 ⟨pa, pc, qa, qc, rfl, ⟨u1, u2, u3, u4⟩, ⟨v1, v2, v3, v4⟩, X, rfl⟩; clear u4 v4))
        go_ret
        exact post_mk rfl (by (try show Ex _ _); repeat (first | (with_reducible exact ex_refl _) | (with_reducible assumption) | (with_reducible refine ex_drewL ?_) | (with_reducible refine ex_appR ?_ _) | (with_reducible refine ex_wx ?_ _) | (with_reducible refine ex_drew ?_) | (with_reducible refine ex_alloc ?_ _)))
      | true =>
        rw [hr] at HRt
        simp only [if_true] at HRt
        have HPv : Hid (∀ w', Ex w w' → Calls Tryd.prog 44 #[.slice a l.length c, .agg (RC r)] w' (PostSp w' l.length (firstP l r) (pairsP l r) (pathS l r) 0)) := Lib.hid fun w' k => prove_any (G.ex k) l r a c w' (ex_refl _) hc hcm ha (hs.ex k) hr
        have HVe : Hid (∀ pa pc qa qc w', Ex w w' → (pairsP l r).length ≤ pc → pc ≤ maxLen → (pathS l r).length ≤ qc → qc ≤ maxLen → SlP w' pa (pairsP l r) → SlD w' qa (pathS l r) → Calls Tryd.prog 49 #[.agg (rowB 32 (dF (rootP l))), .agg (RC r), .agg #[I l.length, I (firstP l r), .slice pa (pairsP l r).length pc, .slice qa (pathS l r).length qc]] w' (PostV w' (l.filter fun p => inP r p.1) 0)) := Lib.hid fun pa pc qa qc w' k h1 h2 h3 h4 h5 h6 => by
          have := verify_any (G.ex k) (rootP l) r l.length (firstP l r) (pairsP l r) (pathS l r) pa qa pc qc w' (ex_refl _) h1 h2 h3 h4 h5 h6
          rwa [back_ver hr r] at this
        generalize pathS l r = qs at *
        generalize pairsP l r = ps at *
        generalize firstP l r = F at *
        generalize rootP l = z at *
        obtain ⟨L1, hL1⟩ : ∃ L1, ps.length = L1 := ⟨_, rfl⟩
        obtain ⟨L2, hL2⟩ : ∃ L2, qs.length = L2 := ⟨_, rfl⟩
        have HPS : Hid (∀ w', Ex w w' → SlP w' a l) := Lib.hid fun w' k => hs.ex k
        have HIN := Lib.hid (fun k w' => in_any r (prAt l k).1 w')
        unfold PostSp at HPv
        rw [hL1, hL2] at HVe HPv
        obtain ⟨n, hn⟩ : ∃ n, l.length = n := ⟨_, rfl⟩
        have HN := Lib.hid hn
        rw [hn] at HO HRt HPv HVe hc ⊢
        obtain ⟨lo, hi, op⟩ := r
        unfold RC at HOR HPv HVe HIN ⊢
        simp only at HOR HPv HVe HIN ⊢
        clear hs hov hor hr hL1 hL2 hn
        go_enter Tryd.func12, Tryd.ntmps12
        go_wp2_with (first | (go_at_call 34; (with_reducible refine (HW.out _ (by (try show Ex _ _); repeat (first | (with_reducible exact ex_refl _) | (with_reducible assumption) | (with_reducible refine ex_drewL ?_) | (with_reducible refine ex_appR ?_ _) | (with_reducible refine ex_wx ?_ _) | (with_reducible refine ex_drew ?_) | (with_reducible refine ex_alloc ?_ _)))).mono ?_); rintro e w2 ⟨rfl, X, rfl⟩) | (go_at_call 35; (with_reducible refine (HO.out _ (by (try show Ex _ _); repeat (first | (with_reducible exact ex_refl _) | (with_reducible assumption) | (with_reducible refine ex_drewL ?_) | (with_reducible refine ex_appR ?_ _) | (with_reducible refine ex_wx ?_ _) | (with_reducible refine ex_drew ?_) | (with_reducible refine ex_alloc ?_ _)))).mono ?_); rintro e w2 ⟨rfl, X, rfl⟩) | (go_at_call 36; (with_reducible refine (HOR.out _).mono ?_); rintro e w2 ⟨rfl, X, rfl⟩) | (go_at_call 37; (with_reducible refine (HRt.out _ (by (try show Ex _ _); repeat (first | (with_reducible exact ex_refl _) | (with_reducible assumption) | (with_reducible refine ex_drewL ?_) | (with_reducible refine ex_appR ?_ _) | (with_reducible refine ex_wx ?_ _) | (with_reducible refine ex_drew ?_) | (with_reducible refine ex_alloc ?_ _)))).mono ?_); rintro e w2 ⟨rfl, X, rfl⟩) | (go_at_call 44; (with_reducible refine (HPv.out _ (by (try show Ex _ _); repeat (first | (with_reducible exact ex_refl _) | (with_reducible assumption) | (with_reducible refine ex_drewL ?_) | (with_reducible refine ex_appR ?_ _) | (with_reducible refine ex_wx ?_ _) | (with_reducible refine ex_drew ?_) | (with_reducible refine ex_alloc ?_ _)))).mono ?_); rintro e w2 ⟨pa, pc, qa, qc, rfl, ⟨u1, u2, _, u4⟩, ⟨v1, v2, _, v4⟩, X, rfl⟩; replace u4 := Lib.hid u4; replace v4 := Lib.hid v4) | (go_at_call 49; (with_reducible refine (HVe.out _ _ _ _ _ (by (try show Ex _ _); repeat (first | (with_reducible exact ex_refl _) | (with_reducible assumption) | (with_reducible refine ex_drewL ?_) | (with_reducible refine ex_appR ?_ _) | (with_reducible refine ex_wx ?_ _) | (with_reducible refine ex_drew ?_) | (with_reducible refine ex_alloc ?_ _))) u1 u2 v1 v2 (u4.out.ex (by (try show Ex _ _); repeat (first | (with_reducible exact ex_refl _) | (with_reducible assumption) | (with_reducible refine ex_drewL ?_) | (with_reducible refine ex_appR ?_ _) | (with_reducible refine ex_wx ?_ _) | (with_reducible refine ex_drew ?_) | (with_reducible refine ex_alloc ?_ _)))) (v4.out.ex (by (try show Ex _ _); repeat (first | (with_reducible exact ex_refl _) | (with_reducible assumption) | (with_reducible refine ex_drewL ?_) | (with_reducible refine ex_appR ?_ _) | (with_reducible refine ex_wx ?_ _) | (with_reducible refine ex_drew ?_) | (with_reducible refine ex_alloc ?_ _))))).mono ?_); rintro e w2 ⟨v, rfl, hv, kx⟩; have K2 : Ex w w2 := ex_trans (by (try show Ex _ _); repeat (first | (with_reducible exact ex_refl _) | (with_reducible assumption) | (with_reducible refine ex_drewL ?_) | (with_reducible refine ex_appR ?_ _) | (with_reducible refine ex_wx ?_ _) | (with_reducible refine ex_drew ?_) | (with_reducible refine ex_alloc ?_ _))) kx; have KR : Ex (w.alloc (.cells #[.string lo, .string hi, .bool op] 55)) w2 := ex_trans (by (try show Ex _ _); repeat (first | (with_reducible exact ex_refl _) | (with_reducible assumption) | (with_reducible refine ex_drewL ?_) | (with_reducible refine ex_appR ?_ _) | (with_reducible refine ex_wx ?_ _) | (with_reducible refine ex_drew ?_) | (with_reducible refine ex_alloc ?_ _))) kx; obtain ⟨va, vc, rfl, hv1, hv2, _, hv4⟩ := hv.slg; replace hv4 := Lib.hid hv4; clear hv u1 u2 u4 v1 v2 v4))
        refine wp_world fun w8 hw8 => ?_
        have K8 : Ex w w8 := by rw [← hw8]; exact (by (try show Ex _ _); repeat (first | (with_reducible exact ex_refl _) | (with_reducible assumption) | (with_reducible refine ex_drewL ?_) | (with_reducible refine ex_appR ?_ _) | (with_reducible refine ex_wx ?_ _) | (with_reducible refine ex_drew ?_) | (with_reducible refine ex_alloc ?_ _)))
        have KR8 : Ex (w.alloc (.cells #[.string lo, .string hi, .bool op] 55)) w8 := by rw [← hw8]; exact (by (try show Ex _ _); repeat (first | (with_reducible exact ex_refl _) | (with_reducible assumption) | (with_reducible refine ex_drewL ?_) | (with_reducible refine ex_appR ?_ _) | (with_reducible refine ex_wx ?_ _) | (with_reducible refine ex_drew ?_) | (with_reducible refine ex_alloc ?_ _)))
        have hb8 := ex_block KR8 (heap_alloc_new _ _)
        have r0 := (block_cell (o := 0) hb8 rfl).1
        have r1 := (block_cell (o := 1) hb8 rfl).1
        have r2 := (block_cell (o := 2) hb8 rfl).1
        have r3 : w.heap.size < w8.heap.size := (Array.getElem?_eq_some_iff.1 hb8).1
        have hv8 := Lib.hid (hv4.out.ex (w' := w8) (by rw [← hw8]; exact (by (try show Ex _ _); repeat (first | (with_reducible exact ex_refl _) | (with_reducible assumption) | (with_reducible refine ex_drewL ?_) | (with_reducible refine ex_appR ?_ _) | (with_reducible refine ex_wx ?_ _) | (with_reducible refine ex_drew ?_) | (with_reducible refine ex_alloc ?_ _)))))
        have hl8 : (l.filter fun p => inP ⟨lo, hi, op⟩ p.1).length ≤ 300 := by
          have h1 := List.length_filter_le (fun p : Pr => inP ⟨lo, hi, op⟩ p.1) l
          have := HN.out
          omega
        clear hw8 hv4 hb8 K2 KR KR8 HRt HPv HVe HW HO HOR
        obtain ⟨m, hm⟩ : ∃ m, (l.filter fun p => inP ⟨lo, hi, op⟩ p.1).length = m := ⟨_, rfl⟩
        have HM := Lib.hid hm
        rw [hm] at hv1 hl8 ⊢
        clear hm
        go_loopw [10, 52] (fun q i wr => ∃ j : Nat, j ≤ n ∧ i = I j ∧ (∃ q2 : Nat, q = I q2 ∧ q2 ≤ 300 ∧ Hid (((l.take j).filter fun p => inP ⟨lo, hi, op⟩ p.1).length = q2)) ∧ Ex w8 wr) (fun _ i _ => n - (intOf i).toNat)
        case atStart => exact ⟨0, by omega, rfl, ⟨0, rfl, by omega, Lib.hid rfl⟩, (by (try show Ex _ _); repeat (first | (with_reducible exact ex_refl _) | (with_reducible assumption) | (with_reducible refine ex_drewL ?_) | (with_reducible refine ex_appR ?_ _) | (with_reducible refine ex_wx ?_ _) | (with_reducible refine ex_drew ?_) | (with_reducible refine ex_alloc ?_ _)))⟩
        case round =>
          obtain ⟨j, hj, rfl, ⟨q2, rfl, hq2, HQ⟩, kr⟩ := hrel
          have hn3 : n ≤ 300 := by have := HN.out; omega
          have Kw : Ex w wr := ex_trans K8 kr
          have s0 := ex_cell kr r0 r3
          have s1 := ex_cell kr r1 r3
          have s2 := ex_cell kr r2 r3
          have s3 : w.heap.size < wr.heap.size := Nat.lt_of_lt_of_le r3 (ex_size kr)
          by_cases hlt : j < n
          · obtain ⟨g, off, rfl, hg, t1, t2, t3⟩ := (HPS.out _ Kw).row (i := j) (by have := HN.out; omega)
            have HF := Lib.hid (filter_snoc (fun p => inP ⟨lo, hi, op⟩ p.1) l j (by have := HN.out; omega))
            have HA := Lib.hid (filter_at (fun p => inP ⟨lo, hi, op⟩ p.1) l j (by have := HN.out; omega))
            have HIK := Lib.hid (HIN.out j)
            have hmm : (l.filter fun p => inP ⟨lo, hi, op⟩ p.1).length = m := HM.out
            generalize prAt l j = pk at t1 t2 t3 HF HIK HA
            obtain ⟨sk, tk⟩ := pk
            unfold PC at t1
            simp only at t1 t2 t3 HF HIK HA
            cases hin : inP ⟨lo, hi, op⟩ sk with
            | false =>
              rw [hin] at HIK HF
              simp only [Bool.false_eq_true, if_false, List.append_nil] at HF
              clear HA hin hmm
              go_wp2_with (go_at_call 40; (with_reducible refine (HIK.out _).mono ?_); rintro e w2 ⟨rfl, X3, rfl⟩)
              refine ⟨⟨j + 1, by omega, by go_num, ⟨q2, rfl, hq2, Lib.hid (by rw [HF.out]; exact HQ.out)⟩, (by (try show Ex _ _); repeat (first | (with_reducible exact ex_refl _) | (with_reducible assumption) | (with_reducible refine ex_drewL ?_) | (with_reducible refine ex_appR ?_ _) | (with_reducible refine ex_wx ?_ _) | (with_reducible refine ex_drew ?_) | (with_reducible refine ex_alloc ?_ _)))⟩, by simp [intOf]; omega⟩
            | true =>
              have hA := HA.out hin
              rw [HQ.out] at hA
              rw [hin] at HIK HF
              simp only [if_true] at HF
              have hqm : q2 < m := by rw [← hmm]; exact (List.getElem?_eq_some_iff.1 hA).1
              obtain ⟨g2, off2, rfl, hg2, hc2⟩ := (hv8.out.ex kr).pos (by omega)
              have c2 := hc2 q2 _ hA
              unfold PC at c2
              simp only at c2
              have c3 : wr.cell? ⟨g2, off2 + q2 * 2, none⟩ = some (.string sk) := by have := (cellsN_some.1 c2).2 0 (by decide); simpa using this
              have c4 : wr.cell? ⟨g2, off2 + q2 * 2 + 1, none⟩ = some (.string tk) := by have := (cellsN_some.1 c2).2 1 (by decide); simpa using this
              have e1 : decide ((m : Int) ≤ q2) = false := decide_eq_false (by omega)
              have e2 : decide (m ≤ q2) = false := decide_eq_false (by omega)
              have e3 : (sk == sk) = true := by rw [beqS]; exact decide_eq_true rfl
              have e4 : (tk == tk) = true := by rw [beqS]; exact decide_eq_true rfl
              have HQ2 : Hid (((l.take (j + 1)).filter fun p => inP ⟨lo, hi, op⟩ p.1).length = q2 + 1) := Lib.hid (by rw [HF.out, List.length_append, HQ.out]; rfl)
              have hq3 : q2 + 1 ≤ 300 := by omega
              clear HA hin hmm hA hc2 HF
              go_wp2_with (go_at_call 40; (with_reducible refine (HIK.out _).mono ?_); rintro e w2 ⟨rfl, X3, rfl⟩)
              refine wp_region_seq [(0, true), (1, true), (2, true), (3, true), (4, true), (5, true), (6, true), (7, true), (8, true), (9, true), (10, true), (11, true)] (by kernel_rfl) (by kernel_rfl) (fun _ _ d _ _ h => by cases d <;> exact h) ?_
              simp only [List.map_cons, List.map_nil, nth]
              repeat (first | ((with_reducible refine wpSeq_look ?_); go_big_quiet_step (fail); (with_reducible refine wpQuiet_nil ?_)) | ((with_reducible refine wpSeq_effF ?_ ?_); (focus rfl); go_simp) | ((with_reducible refine wpSeq_eff ?_ ?_); (focus rfl); (try dsimp only); go_wp2_with (fail); refine mixQ_mk (by (try show Ex _ _); repeat (first | (with_reducible exact ex_refl _) | (with_reducible assumption) | (with_reducible refine ex_drewL ?_) | (with_reducible refine ex_appR ?_ _) | (with_reducible refine ex_wx ?_ _) | (with_reducible refine ex_drew ?_) | (with_reducible refine ex_alloc ?_ _))) ?_))
              refine wpSeq_nil ?_
              go_wp2
              refine ⟨⟨j + 1, by omega, by go_num, ⟨q2 + 1, by go_num, hq3, HQ2⟩, (by (try show Ex _ _); repeat (first | (with_reducible exact ex_refl _) | (with_reducible assumption) | (with_reducible refine ex_drewL ?_) | (with_reducible refine ex_appR ?_ _) | (with_reducible refine ex_wx ?_ _) | (with_reducible refine ex_drew ?_) | (with_reducible refine ex_alloc ?_ _)))⟩, by simp [intOf]; omega⟩
          · obtain rfl : j = n := by omega
            have hfin : l.take j = l := List.take_of_length_le (by have := HN.out; omega)
            have hqm : q2 = m := by rw [← HQ.out, ← HM.out, hfin]
            subst hqm
            go_wp2
            go_ret
            exact post_mk rfl (by (try show Ex _ _); repeat (first | (with_reducible exact ex_refl _) | (with_reducible assumption) | (with_reducible refine ex_drewL ?_) | (with_reducible refine ex_appR ?_ _) | (with_reducible refine ex_wx ?_ _) | (with_reducible refine ex_drew ?_) | (with_reducible refine ex_alloc ?_ _)))
end Go.Proofs.YtbobamifpjlmiaaDoor
