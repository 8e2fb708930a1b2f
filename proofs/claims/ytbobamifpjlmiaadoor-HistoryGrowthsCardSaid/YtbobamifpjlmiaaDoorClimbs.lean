/- HistoryClimbs: what it does. -/
import Derived.Test.YtbobamifpjlmiaaDoorRow
import Derived.Test.YtbobamifpjlmiaaDoorClimbR
import Derived.Test.YtbobamifpjlmiaaDoorGrows
set_option linter.unusedSimpArgs false
set_option linter.unusedVariables false
set_option maxRecDepth 20000
namespace Go.Proofs.YtbobamifpjlmiaaDoor
open Go.RowKit
set_option maxHeartbeats 1000000 in
theorem climbs_any (a : Option Addr) (n c : Nat) (E : Nat → RowE) (z : Dg) (w : World) (hn : n ≤ c) (hc : c ≤ maxLen) (hs : SlN w a n 35 (fun i => (E i).cells)) (hE : ∀ i, i < n → (E i).ok w) (G : Glob w) :
    Calls Tryd.prog 5 #[.slice a n c, .agg (rowB 32 (dF z))] w (Post w (.bool true)) := by
  unfold maxLen at hc
  have HE : Hid (∀ i, i < n → (E i).ok w) := Lib.hid hE
  have HW : Hid (∀ w', Ex w w' → Calls Tryd.prog 15 #[] w' (Post w' (.bool true))) := Lib.hid fun w' k => wakesH_any w' (G.ex k)
  clear hE
  go_enter Tryd.func5, Tryd.ntmps5
  go_wp2_with (go_at_call 15; (with_reducible refine (HW.out _ (by (try show Ex _ _); repeat (first | (with_reducible exact ex_refl _) | (with_reducible assumption) | (with_reducible refine ex_drewL ?_) | (with_reducible refine ex_appR ?_ _) | (with_reducible refine ex_wx ?_ _) | (with_reducible refine ex_drew ?_) | (with_reducible refine ex_alloc ?_ _)))).mono ?_); rintro e w2 ⟨rfl, X1, rfl⟩)
  obtain ⟨w0, hw0⟩ : ∃ w0, w.alloc (.cells (rowB 32 (dF z)) 26) = w0 := ⟨_, rfl⟩
  have K0 : Ex w w0 := by rw [← hw0]; exact ex_alloc (ex_refl _) _
  have HB := Lib.hid (fun A (k : Ex w0 A) => cells_ex (u := w) (A := A) (cs := rowB 32 (dF z)) (t := 26) (n := 32) (by rw [hw0]; exact k) (by simp) (b := w.heap.size) rfl)
  rw [hw0]
  clear hw0
  generalize w.heap.size = b0 at HB ⊢
  go_loopw [17] (fun i wr => ∃ k : Nat, k ≤ n ∧ i = I k ∧ Ex w0 wr) (fun i _ => n - (intOf i).toNat)
  case atStart => exact ⟨0, by omega, rfl, (by (try show Ex _ _); repeat (first | (with_reducible exact ex_refl _) | (with_reducible assumption) | (with_reducible refine ex_drewL ?_) | (with_reducible refine ex_appR ?_ _) | (with_reducible refine ex_wx ?_ _) | (with_reducible refine ex_drew ?_) | (with_reducible refine ex_alloc ?_ _)))⟩
  case round =>
    obtain ⟨k, hk, rfl, kr⟩ := hrel
    have kw : Ex w wr := ex_trans K0 kr
    by_cases hlt : k < n
    · by_cases h12 : k = 12
      · obtain ⟨g, off, rfl, hg, hcell⟩ := (hs.exN (ex_trans K0 kr)).pos (by omega)
        have h1 := hcell k hlt
        have hok := HE.out k hlt
        generalize E k = e at h1 hok
        have h12' : ((k : Int) == 12) = true := by rw [h12]; rfl
        have H12 := Lib.hid h12
        clear h12 hcell hs
        go_wp2
        go_ret
        exact post_mk rfl (by (try show Ex _ _); repeat (first | (with_reducible exact ex_refl _) | (with_reducible assumption) | (with_reducible refine ex_drewL ?_) | (with_reducible refine ex_appR ?_ _) | (with_reducible refine ex_wx ?_ _) | (with_reducible refine ex_drew ?_) | (with_reducible refine ex_alloc ?_ _)))
      · have h12' : ((k : Int) == 12) = false := beq_eq_false_iff_ne.2 (by omega)
        obtain ⟨g, off, rfl, hg, hcell⟩ := (hs.exN kw).pos (by omega)
        have h1 := hcell k hlt
        obtain ⟨k1, k2, k3, k4, k5⟩ := (HE.out k hlt).ex kw
        generalize E k = e at h1 k1 k2 k3 k4 k5
        clear h12 hcell hs HE
        obtain ⟨m, hm⟩ : ∃ m, (e.l.take 14).length = m := ⟨_, rfl⟩
        have hm14 : m ≤ 14 := by rw [← hm, List.length_take]; omega
        have HSH : Hid (∀ w', Ex wr w' → Calls Tryd.prog 16 #[.slice e.a e.len e.cap, I 14] w' (PostS w' m (e.l.take 14))) := Lib.hid fun w' k => by
          have := (short_any e.l 14 e.a e.cap w' (by omega) (by omega) k3 k4 (k5.ex k)).mono (postS hm)
          rwa [k1] at this
        have k4' := k5
        clear k1 k2 k3 k4 k5 k4'
        generalize e.l.take 14 = p at hm HSH
        have HM : Hid (p.length = m) := Lib.hid hm
        clear hm
        have HCl : Hid (∀ w' pa pc, Ex w w' → m ≤ pc → pc ≤ maxLen → SlD w' pa p → Calls Tryd.prog 30 #[I e.n, I e.i, .agg (rowB 32 (dF e.d)), .slice pa m pc] w' (Post w' (climbV (ClimbD e.n e.i e.d p)))) := Lib.hid fun w' pa pc k h1 h2 h3 => by
          have := climb_any G e.n e.i e.d p pa pc w' k (by rw [HM.out]; exact h1) h2 h3
          rwa [HM.out] at this
        have HCr : Hid (∀ w' pa pc, m ≤ pc → pc ≤ maxLen → SlD w' pa p → Calls Tryd.prog 31 #[I e.n, I e.i, .agg (rowB 32 (dF e.d)), .slice pa m pc] w' (PostC w' (ClimbD e.n e.i e.d p))) := Lib.hid fun w' pa pc h1 h2 h3 => by
          have := refClimb_any e.n e.i e.d p pa pc w' (by rw [HM.out]; exact h1) h2 h3
          rwa [HM.out] at this
        have HIn : Hid (∀ r w' pa pc, Ex w w' → m ≤ pc → pc ≤ maxLen → SlD w' pa p → Calls Tryd.prog 32 #[.agg (rowB 32 (dF r)), I e.n, I e.i, .agg (rowB 32 (dF e.d)), .slice pa m pc] w' (Post w' (.bool (decide (ClimbD e.n e.i e.d p = some r))))) := Lib.hid fun r w' pa pc k h1 h2 h3 => by
          have := includes_any G r e.n e.i e.d p pa pc w' k (by rw [HM.out]; exact h1) h2 h3
          rwa [HM.out] at this
        have HSa : Hid (∀ w' xa xb xc xd, m ≤ xc → xc ≤ maxLen → m ≤ xd → xd ≤ maxLen → SlD w' xa p → SlD w' xb p → Calls Tryd.prog 21 #[.slice xa m xc, .slice xb m xd] w' (Post w' (.bool true))) := Lib.hid fun w' xa xb xc xd h1 h2 h3 h4 h5 h6 => by
          have := same_any p p xa xb xc xd w' (by rw [HM.out]; exact h1) h2 (by rw [HM.out]; exact h3) h4 h5 h6
          rwa [decide_eq_true rfl, HM.out] at this
        have tok1 : True := trivial
        cases ho : ClimbD e.n e.i e.d p with
        | none =>
          rw [ho] at HCl HCr
          simp only [ho] at HIn
          have HI0 : Hid (∀ r w' pa pc, Ex w w' → m ≤ pc → pc ≤ maxLen → SlD w' pa p → Calls Tryd.prog 32 #[.agg (rowB 32 (dF r)), I e.n, I e.i, .agg (rowB 32 (dF e.d)), .slice pa m pc] w' (Post w' (.bool false))) := HIn
          have HC0 : Hid (∀ w' pa pc, Ex w w' → m ≤ pc → pc ≤ maxLen → SlD w' pa p → Calls Tryd.prog 30 #[I e.n, I e.i, .agg (rowB 32 (dF e.d)), .slice pa m pc] w' (Post w' (.tuple #[.agg (rowB 32 fun _ => 0), .bool false]))) := HCl
          clear HIn HCl ho
          have e7 := eqF_same (fun _ => (0 : UInt8)) 32
          go_wp2_with (first | (go_at_call 16; have _t := tok1; clear tok1; (with_reducible refine (HSH.out _ (by (try show Ex _ _); repeat (first | (with_reducible exact ex_refl _) | (with_reducible assumption) | (with_reducible refine ex_drewL ?_) | (with_reducible refine ex_appR ?_ _) | (with_reducible refine ex_wx ?_ _) | (with_reducible refine ex_drew ?_) | (with_reducible refine ex_alloc ?_ _)))).mono ?_); rintro e w2 ⟨pa, pc, rfl, p1, p2, p3, psl, kx⟩; have K2 : Ex wr w2 := ex_trans (by (try show Ex _ _); repeat (first | (with_reducible exact ex_refl _) | (with_reducible assumption) | (with_reducible refine ex_drewL ?_) | (with_reducible refine ex_appR ?_ _) | (with_reducible refine ex_wx ?_ _) | (with_reducible refine ex_drew ?_) | (with_reducible refine ex_alloc ?_ _))) kx; clear p3; obtain ⟨s1, s2, s3, s4, s5⟩ := rowE_at (show Ex _ w2 from kx) (b := wr.heap.size) rfl) | (go_at_call 16; (with_reducible refine (HSH.out _ (by (try show Ex _ _); repeat (first | (with_reducible exact ex_refl _) | (with_reducible assumption) | (with_reducible refine ex_drewL ?_) | (with_reducible refine ex_appR ?_ _) | (with_reducible refine ex_wx ?_ _) | (with_reducible refine ex_drew ?_) | (with_reducible refine ex_alloc ?_ _)))).mono ?_); rintro e w3 ⟨qa, qc, rfl, q1, q2, q3, qsl, kx3⟩; have K3 : Ex wr w3 := ex_trans (by (try show Ex _ _); repeat (first | (with_reducible exact ex_refl _) | (with_reducible assumption) | (with_reducible refine ex_drewL ?_) | (with_reducible refine ex_appR ?_ _) | (with_reducible refine ex_wx ?_ _) | (with_reducible refine ex_drew ?_) | (with_reducible refine ex_alloc ?_ _))) kx3; have K4 : Ex w w3 := ex_trans kw K3; have KR := ex_trans (show Ex _ w2 from kx) (show Ex w2 w3 from kx3); replace psl := psl.ex kx3; clear s1 s2 s3 s4 s5; obtain ⟨r1, r2, r3, r4, r5⟩ := rowE_at KR (b := wr.heap.size) rfl; obtain ⟨b1, b2⟩ := HB.out w3 (ex_trans kr K3); have K5 : Ex w0 w3 := ex_trans kr K3; clear q3 K2 kx KR kx3 HSH))
          clear HB h1 hg r3
          generalize wr.heap.size = b6 at r1 r2 r4 r5 ⊢
          refine wp_region_seq [(0, true), (1, true), (3, true), (4, true), (2, false), (5, false), (6, true)] (by kernel_rfl) (by kernel_rfl) (fun _ _ d _ _ h => by cases d <;> exact h) ?_
          simp only [List.map_cons, List.map_nil, nth]
          repeat (first | (refine wpSeq_look ?_; go_big_quiet_step (fail); refine wpQuiet_nil ?_) | (refine wpSeq_effF (by rfl) ?_; go_simp) | (refine wpSeq_eff (by rfl) ?_; (try dsimp only); go_wp2_with (first | (go_at_call 28; (with_reducible refine (Split_any _ _).mono ?_); rintro e4 w4 ⟨rfl, rfl⟩) | (go_at_call 29; (with_reducible refine (refSplit_any _ _).mono ?_); rintro e5 w5 ⟨rfl, rfl⟩)); refine mixQ_mk (by (try show Ex _ _); repeat (first | (with_reducible exact ex_refl _) | (with_reducible assumption) | (with_reducible refine ex_drewL ?_) | (with_reducible refine ex_appR ?_ _) | (with_reducible refine ex_wx ?_ _) | (with_reducible refine ex_drew ?_) | (with_reducible refine ex_alloc ?_ _))) ?_))
          refine wpSeq_nil ?_
          go_wp2_with (first | (go_at_call 30; (with_reducible refine (HC0.out _ _ _ (by (try show Ex _ _); repeat (first | (with_reducible exact ex_refl _) | (with_reducible assumption) | (with_reducible refine ex_drewL ?_) | (with_reducible refine ex_appR ?_ _) | (with_reducible refine ex_wx ?_ _) | (with_reducible refine ex_drew ?_) | (with_reducible refine ex_alloc ?_ _))) p1 p2 (psl.ex (by (try show Ex _ _); repeat (first | (with_reducible exact ex_refl _) | (with_reducible assumption) | (with_reducible refine ex_drewL ?_) | (with_reducible refine ex_appR ?_ _) | (with_reducible refine ex_wx ?_ _) | (with_reducible refine ex_drew ?_) | (with_reducible refine ex_alloc ?_ _))))).mono ?_); rintro e6 w6 ⟨rfl, X6, rfl⟩) | (go_at_call 31; (with_reducible refine (HCr.out _ _ _ q1 q2 (qsl.ex (by (try show Ex _ _); repeat (first | (with_reducible exact ex_refl _) | (with_reducible assumption) | (with_reducible refine ex_drewL ?_) | (with_reducible refine ex_appR ?_ _) | (with_reducible refine ex_wx ?_ _) | (with_reducible refine ex_drew ?_) | (with_reducible refine ex_alloc ?_ _))))).mono ?_); rintro e7 w7 ⟨y, rfl, _, X7, rfl⟩) | (go_at_call 32; (with_reducible refine (HI0.out _ _ _ _ (by (try show Ex _ _); repeat (first | (with_reducible exact ex_refl _) | (with_reducible assumption) | (with_reducible refine ex_drewL ?_) | (with_reducible refine ex_appR ?_ _) | (with_reducible refine ex_wx ?_ _) | (with_reducible refine ex_drew ?_) | (with_reducible refine ex_alloc ?_ _))) p1 p2 (psl.ex (by (try show Ex _ _); repeat (first | (with_reducible exact ex_refl _) | (with_reducible assumption) | (with_reducible refine ex_drewL ?_) | (with_reducible refine ex_appR ?_ _) | (with_reducible refine ex_wx ?_ _) | (with_reducible refine ex_drew ?_) | (with_reducible refine ex_alloc ?_ _))))).mono ?_); rintro e8 w8 ⟨rfl, X8, rfl⟩) | (go_at_call 21; (with_reducible refine (HSa.out _ _ _ _ _ p1 p2 q1 q2 (psl.ex (by (try show Ex _ _); repeat (first | (with_reducible exact ex_refl _) | (with_reducible assumption) | (with_reducible refine ex_drewL ?_) | (with_reducible refine ex_appR ?_ _) | (with_reducible refine ex_wx ?_ _) | (with_reducible refine ex_drew ?_) | (with_reducible refine ex_alloc ?_ _)))) (qsl.ex (by (try show Ex _ _); repeat (first | (with_reducible exact ex_refl _) | (with_reducible assumption) | (with_reducible refine ex_drewL ?_) | (with_reducible refine ex_appR ?_ _) | (with_reducible refine ex_wx ?_ _) | (with_reducible refine ex_drew ?_) | (with_reducible refine ex_alloc ?_ _))))).mono ?_); rintro e9 w9 ⟨rfl, X9, rfl⟩))
          refine ⟨⟨k + 1, by omega, by go_num, (by (try show Ex _ _); repeat (first | (with_reducible exact ex_refl _) | (with_reducible assumption) | (with_reducible refine ex_drewL ?_) | (with_reducible refine ex_appR ?_ _) | (with_reducible refine ex_wx ?_ _) | (with_reducible refine ex_drew ?_) | (with_reducible refine ex_alloc ?_ _)))⟩, by simp [intOf]; omega⟩
        | some x =>
          rw [ho] at HCl HCr
          simp only [ho, Option.some.injEq] at HIn
          have HI1 : Hid (∀ w' pa pc, Ex w w' → m ≤ pc → pc ≤ maxLen → SlD w' pa p → Calls Tryd.prog 32 #[.agg (rowB 32 (dF x)), I e.n, I e.i, .agg (rowB 32 (dF e.d)), .slice pa m pc] w' (Post w' (.bool true))) := Lib.hid fun w' pa pc k h1 h2 h3 => by
            have := HIn.out x w' pa pc k h1 h2 h3
            rwa [decide_eq_true rfl] at this
          have HI0 := Lib.hid (HIn.out z)
          have HC0 : Hid (∀ w' pa pc, Ex w w' → m ≤ pc → pc ≤ maxLen → SlD w' pa p → Calls Tryd.prog 30 #[I e.n, I e.i, .agg (rowB 32 (dF e.d)), .slice pa m pc] w' (Post w' (.tuple #[.agg (rowB 32 (dF x)), .bool true]))) := HCl
          clear HIn HCl ho
          have e7 := eqF_same (dF x) 32
          have he := eqD x z
          generalize decide (x = z) = b at he HI0
          have tok2 : True := trivial
          go_wp2_with (first | (go_at_call 16; have _t := tok1; clear tok1; (with_reducible refine (HSH.out _ (by (try show Ex _ _); repeat (first | (with_reducible exact ex_refl _) | (with_reducible assumption) | (with_reducible refine ex_drewL ?_) | (with_reducible refine ex_appR ?_ _) | (with_reducible refine ex_wx ?_ _) | (with_reducible refine ex_drew ?_) | (with_reducible refine ex_alloc ?_ _)))).mono ?_); rintro e w2 ⟨pa, pc, rfl, p1, p2, p3, psl, kx⟩; have K2 : Ex wr w2 := ex_trans (by (try show Ex _ _); repeat (first | (with_reducible exact ex_refl _) | (with_reducible assumption) | (with_reducible refine ex_drewL ?_) | (with_reducible refine ex_appR ?_ _) | (with_reducible refine ex_wx ?_ _) | (with_reducible refine ex_drew ?_) | (with_reducible refine ex_alloc ?_ _))) kx; clear p3; obtain ⟨s1, s2, s3, s4, s5⟩ := rowE_at (show Ex _ w2 from kx) (b := wr.heap.size) rfl) | (go_at_call 16; (with_reducible refine (HSH.out _ (by (try show Ex _ _); repeat (first | (with_reducible exact ex_refl _) | (with_reducible assumption) | (with_reducible refine ex_drewL ?_) | (with_reducible refine ex_appR ?_ _) | (with_reducible refine ex_wx ?_ _) | (with_reducible refine ex_drew ?_) | (with_reducible refine ex_alloc ?_ _)))).mono ?_); rintro e w3 ⟨qa, qc, rfl, q1, q2, q3, qsl, kx3⟩; have K3 : Ex wr w3 := ex_trans (by (try show Ex _ _); repeat (first | (with_reducible exact ex_refl _) | (with_reducible assumption) | (with_reducible refine ex_drewL ?_) | (with_reducible refine ex_appR ?_ _) | (with_reducible refine ex_wx ?_ _) | (with_reducible refine ex_drew ?_) | (with_reducible refine ex_alloc ?_ _))) kx3; have K4 : Ex w w3 := ex_trans kw K3; have KR := ex_trans (show Ex _ w2 from kx) (show Ex w2 w3 from kx3); replace psl := psl.ex kx3; clear s1 s2 s3 s4 s5; obtain ⟨r1, r2, r3, r4, r5⟩ := rowE_at KR (b := wr.heap.size) rfl; obtain ⟨b1, b2⟩ := HB.out w3 (ex_trans kr K3); have K5 : Ex w0 w3 := ex_trans kr K3; clear q3 K2 kx KR kx3 HSH))
          clear HB h1 hg r3
          generalize wr.heap.size = b6 at r1 r2 r4 r5 ⊢
          refine wp_region_seq [(0, true), (1, true), (3, true), (4, true), (2, false), (5, false), (6, true)] (by kernel_rfl) (by kernel_rfl) (fun _ _ d _ _ h => by cases d <;> exact h) ?_
          simp only [List.map_cons, List.map_nil, nth]
          repeat (first | (refine wpSeq_look ?_; go_big_quiet_step (fail); refine wpQuiet_nil ?_) | (refine wpSeq_effF (by rfl) ?_; go_simp) | (refine wpSeq_eff (by rfl) ?_; (try dsimp only); go_wp2_with (first | (go_at_call 28; (with_reducible refine (Split_any _ _).mono ?_); rintro e4 w4 ⟨rfl, rfl⟩) | (go_at_call 29; (with_reducible refine (refSplit_any _ _).mono ?_); rintro e5 w5 ⟨rfl, rfl⟩)); refine mixQ_mk (by (try show Ex _ _); repeat (first | (with_reducible exact ex_refl _) | (with_reducible assumption) | (with_reducible refine ex_drewL ?_) | (with_reducible refine ex_appR ?_ _) | (with_reducible refine ex_wx ?_ _) | (with_reducible refine ex_drew ?_) | (with_reducible refine ex_alloc ?_ _))) ?_))
          refine wpSeq_nil ?_
          go_wp2_with (first | (go_at_call 30; (with_reducible refine (HC0.out _ _ _ (by (try show Ex _ _); repeat (first | (with_reducible exact ex_refl _) | (with_reducible assumption) | (with_reducible refine ex_drewL ?_) | (with_reducible refine ex_appR ?_ _) | (with_reducible refine ex_wx ?_ _) | (with_reducible refine ex_drew ?_) | (with_reducible refine ex_alloc ?_ _))) p1 p2 (psl.ex (by (try show Ex _ _); repeat (first | (with_reducible exact ex_refl _) | (with_reducible assumption) | (with_reducible refine ex_drewL ?_) | (with_reducible refine ex_appR ?_ _) | (with_reducible refine ex_wx ?_ _) | (with_reducible refine ex_drew ?_) | (with_reducible refine ex_alloc ?_ _))))).mono ?_); rintro e6 w6 ⟨rfl, X6, rfl⟩) | (go_at_call 31; (with_reducible refine (HCr.out _ _ _ q1 q2 (qsl.ex (by (try show Ex _ _); repeat (first | (with_reducible exact ex_refl _) | (with_reducible assumption) | (with_reducible refine ex_drewL ?_) | (with_reducible refine ex_appR ?_ _) | (with_reducible refine ex_wx ?_ _) | (with_reducible refine ex_drew ?_) | (with_reducible refine ex_alloc ?_ _))))).mono ?_); rintro e7 w7 ⟨y, rfl, hy, X7, rfl⟩; obtain rfl := hy _ rfl; clear hy) | (go_at_call 32; have _t2 := tok2; clear tok2; (with_reducible refine (HI0.out _ _ _ (by (try show Ex _ _); repeat (first | (with_reducible exact ex_refl _) | (with_reducible assumption) | (with_reducible refine ex_drewL ?_) | (with_reducible refine ex_appR ?_ _) | (with_reducible refine ex_wx ?_ _) | (with_reducible refine ex_drew ?_) | (with_reducible refine ex_alloc ?_ _))) p1 p2 (psl.ex (by (try show Ex _ _); repeat (first | (with_reducible exact ex_refl _) | (with_reducible assumption) | (with_reducible refine ex_drewL ?_) | (with_reducible refine ex_appR ?_ _) | (with_reducible refine ex_wx ?_ _) | (with_reducible refine ex_drew ?_) | (with_reducible refine ex_alloc ?_ _))))).mono ?_); rintro e8 w8 ⟨rfl, X8, rfl⟩) | (go_at_call 32; (with_reducible refine (HI1.out _ _ _ (by (try show Ex _ _); repeat (first | (with_reducible exact ex_refl _) | (with_reducible assumption) | (with_reducible refine ex_drewL ?_) | (with_reducible refine ex_appR ?_ _) | (with_reducible refine ex_wx ?_ _) | (with_reducible refine ex_drew ?_) | (with_reducible refine ex_alloc ?_ _))) p1 p2 (psl.ex (by (try show Ex _ _); repeat (first | (with_reducible exact ex_refl _) | (with_reducible assumption) | (with_reducible refine ex_drewL ?_) | (with_reducible refine ex_appR ?_ _) | (with_reducible refine ex_wx ?_ _) | (with_reducible refine ex_drew ?_) | (with_reducible refine ex_alloc ?_ _))))).mono ?_); rintro e8 w8 ⟨rfl, X10, rfl⟩) | (go_at_call 21; (with_reducible refine (HSa.out _ _ _ _ _ p1 p2 q1 q2 (psl.ex (by (try show Ex _ _); repeat (first | (with_reducible exact ex_refl _) | (with_reducible assumption) | (with_reducible refine ex_drewL ?_) | (with_reducible refine ex_appR ?_ _) | (with_reducible refine ex_wx ?_ _) | (with_reducible refine ex_drew ?_) | (with_reducible refine ex_alloc ?_ _)))) (qsl.ex (by (try show Ex _ _); repeat (first | (with_reducible exact ex_refl _) | (with_reducible assumption) | (with_reducible refine ex_drewL ?_) | (with_reducible refine ex_appR ?_ _) | (with_reducible refine ex_wx ?_ _) | (with_reducible refine ex_drew ?_) | (with_reducible refine ex_alloc ?_ _))))).mono ?_); rintro e9 w9 ⟨rfl, X9, rfl⟩))
          refine ⟨⟨k + 1, by omega, by go_num, (by (try show Ex _ _); repeat (first | (with_reducible exact ex_refl _) | (with_reducible assumption) | (with_reducible refine ex_drewL ?_) | (with_reducible refine ex_appR ?_ _) | (with_reducible refine ex_wx ?_ _) | (with_reducible refine ex_drew ?_) | (with_reducible refine ex_alloc ?_ _)))⟩, by simp [intOf]; omega⟩
    · obtain rfl : k = n := by omega
      clear hlt hk
      go_wp2
      go_ret
      exact post_mk rfl (by (try show Ex _ _); repeat (first | (with_reducible exact ex_refl _) | (with_reducible assumption) | (with_reducible refine ex_drewL ?_) | (with_reducible refine ex_appR ?_ _) | (with_reducible refine ex_wx ?_ _) | (with_reducible refine ex_drew ?_) | (with_reducible refine ex_alloc ?_ _)))
end Go.Proofs.YtbobamifpjlmiaaDoor
