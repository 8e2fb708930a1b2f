/- HistoryGrowths: what it does. -/
import Derived.Test.YtbobamifpjlmiaaDoorClimbs
import Derived.Test.YtbobamifpjlmiaaDoorRootsR
set_option linter.unusedSimpArgs false
set_option linter.unusedVariables false
set_option maxRecDepth 20000
namespace Go.Proofs.YtbobamifpjlmiaaDoor
open Go.RowKit
theorem dec_pair (u v x y : Dg) : decide (some (u, v) = some (x, y)) = (decide (u = x) && decide (v = y)) := by
  rw [Bool.eq_iff_iff]; simp
set_option maxHeartbeats 4000000 in
theorem samerow_any (e : RowE) (x y : Dg) (p : List Dg) (a : Option Addr) (c : Nat) (w : World) (hc : p.length ≤ c) (hcm : c ≤ maxLen) (hs : SlD w a p) :
    Calls Tryd.prog 62 #[.agg e.cells, .agg (rowB 32 (dF x)), .agg (rowB 32 (dF y)), .slice a p.length c] w (Post w (.bool (decide (RootsD e.i e.n x p = some (x, y))))) := by
  have HC : Hid (∀ w', Ex w w' → Calls Tryd.prog 60 #[I e.i, I e.n, .agg (rowB 32 (dF x)), .slice a p.length c] w' (Post w' (rootsV (RootsD e.i e.n x p)))) := Lib.hid fun w' k => refRoots_any e.i e.n x p a c w' hc hcm (hs.ex k)
  generalize RootsD e.i e.n x p = o at HC ⊢
  generalize p.length = L at HC hc ⊢
  clear hs
  cases o with
  | none =>
    have HO : Hid (∀ w', Ex w w' → Calls Tryd.prog 60 #[I e.i, I e.n, .agg (rowB 32 (dF x)), .slice a L c] w' (Post w' (.tuple #[.agg (rowB 32 fun _ => 0), .agg (rowB 32 fun _ => 0), .bool false]))) := HC
    clear HC
    rw [decide_eq_false (by simp)]
    go_enter Tryd.func62, Tryd.ntmps62
    go_wp2_with (go_at_call 60; (with_reducible refine (HO.out _ (by (try show Ex _ _); repeat (first | (with_reducible exact ex_refl _) | (with_reducible assumption) | (with_reducible refine ex_drewL ?_) | (with_reducible refine ex_appR ?_ _) | (with_reducible refine ex_wx ?_ _) | (with_reducible refine ex_drew ?_) | (with_reducible refine ex_alloc ?_ _)))).mono ?_); rintro e2 w2 ⟨rfl, X2, rfl⟩)
    go_ret
    exact post_mk rfl (by (try show Ex _ _); repeat (first | (with_reducible exact ex_refl _) | (with_reducible assumption) | (with_reducible refine ex_drewL ?_) | (with_reducible refine ex_appR ?_ _) | (with_reducible refine ex_wx ?_ _) | (with_reducible refine ex_drew ?_) | (with_reducible refine ex_alloc ?_ _)))
  | some r =>
    obtain ⟨u, v⟩ := r
    have HO : Hid (∀ w', Ex w w' → Calls Tryd.prog 60 #[I e.i, I e.n, .agg (rowB 32 (dF x)), .slice a L c] w' (Post w' (.tuple #[.agg (rowB 32 (dF u)), .agg (rowB 32 (dF v)), .bool true]))) := HC
    clear HC
    rw [dec_pair]
    have he1 := eqD u x
    have he2 := eqD v y
    generalize decide (u = x) = b1 at he1 ⊢
    generalize decide (v = y) = b2 at he2 ⊢
    cases b1
    all_goals
      go_enter Tryd.func62, Tryd.ntmps62
      go_wp2_with (go_at_call 60; (with_reducible refine (HO.out _ (by (try show Ex _ _); repeat (first | (with_reducible exact ex_refl _) | (with_reducible assumption) | (with_reducible refine ex_drewL ?_) | (with_reducible refine ex_appR ?_ _) | (with_reducible refine ex_wx ?_ _) | (with_reducible refine ex_drew ?_) | (with_reducible refine ex_alloc ?_ _)))).mono ?_); rintro e2 w2 ⟨rfl, X2, rfl⟩)
      go_ret
      exact post_mk (by simp) (by (try show Ex _ _); repeat (first | (with_reducible exact ex_refl _) | (with_reducible assumption) | (with_reducible refine ex_drewL ?_) | (with_reducible refine ex_appR ?_ _) | (with_reducible refine ex_wx ?_ _) | (with_reducible refine ex_drew ?_) | (with_reducible refine ex_alloc ?_ _)))
set_option maxHeartbeats 4000000 in
theorem growths_any (a : Option Addr) (n c : Nat) (E : Nat → RowE) (z : Dg) (w : World) (hn : n ≤ c) (hc : c ≤ maxLen) (hs : SlN w a n 35 (fun i => (E i).cells)) (hE : ∀ i, i < n → (E i).ok w) (G : Glob w) :
    Calls Tryd.prog 13 #[.slice a n c, .agg (rowB 32 (dF z))] w (Post w (.bool true)) := by
  unfold maxLen at hc
  have HE : Hid (∀ i, i < n → (E i).ok w) := Lib.hid hE
  have HW : Hid (∀ w', Ex w w' → Calls Tryd.prog 15 #[] w' (Post w' (.bool true))) := Lib.hid fun w' k => wakesH_any w' (G.ex k)
  clear hE
  go_enter Tryd.func13, Tryd.ntmps13
  go_wp2_with (go_at_call 15; (with_reducible refine (HW.out _ (by (try show Ex _ _); repeat (first | (with_reducible exact ex_refl _) | (with_reducible assumption) | (with_reducible refine ex_drewL ?_) | (with_reducible refine ex_appR ?_ _) | (with_reducible refine ex_wx ?_ _) | (with_reducible refine ex_drew ?_) | (with_reducible refine ex_alloc ?_ _)))).mono ?_); rintro e w2 ⟨rfl, X1, rfl⟩)
  obtain ⟨w0, hw0⟩ : ∃ w0, w.alloc (.cells (rowB 32 (dF z)) 26) = w0 := ⟨_, rfl⟩
  have K0 : Ex w w0 := by rw [← hw0]; exact ex_alloc (ex_refl _) _
  have HB := Lib.hid (fun A (k : Ex w0 A) => cells_ex (u := w) (A := A) (cs := rowB 32 (dF z)) (t := 26) (n := 32) (by rw [hw0]; exact k) (by simp) (b := w.heap.size) rfl)
  rw [hw0]
  clear hw0
  generalize w.heap.size = b0 at HB ⊢
  go_loopw [19] (fun i wr => ∃ k : Nat, k ≤ n ∧ i = I k ∧ Ex w0 wr) (fun i _ => n - (intOf i).toNat)
  case atStart => exact ⟨0, by omega, rfl, (by (try show Ex _ _); repeat (first | (with_reducible exact ex_refl _) | (with_reducible assumption) | (with_reducible refine ex_drewL ?_) | (with_reducible refine ex_appR ?_ _) | (with_reducible refine ex_wx ?_ _) | (with_reducible refine ex_drew ?_) | (with_reducible refine ex_alloc ?_ _)))⟩
  case round =>
    obtain ⟨k, hk, rfl, kr⟩ := hrel
    have kw : Ex w wr := ex_trans K0 kr
    by_cases hlt : k < n
    · by_cases h12 : k = 12
      · obtain ⟨g, off, rfl, hg, hcell⟩ := (hs.exN (ex_trans K0 kr)).pos (by omega)
        have h1 := hcell k hlt
        have hok := HE.out k hlt
        generalize E k = e at h1 hok
        have h12' : ((k : Int) == 12) = true := by rw [h12]; rfl
        have H12 := Lib.hid h12
        clear h12 hcell hs
        go_wp2
        go_ret
        exact post_mk rfl (by (try show Ex _ _); repeat (first | (with_reducible exact ex_refl _) | (with_reducible assumption) | (with_reducible refine ex_drewL ?_) | (with_reducible refine ex_appR ?_ _) | (with_reducible refine ex_wx ?_ _) | (with_reducible refine ex_drew ?_) | (with_reducible refine ex_alloc ?_ _)))
      · have h12' : ((k : Int) == 12) = false := beq_eq_false_iff_ne.2 (by omega)
        obtain ⟨g, off, rfl, hg, hcell⟩ := (hs.exN kw).pos (by omega)
        have h1 := hcell k hlt
        obtain ⟨k1, k2, k3, k4, k5⟩ := (HE.out k hlt).ex kw
        generalize E k = e at h1 k1 k2 k3 k4 k5
        clear h12 hcell hs HE
        obtain ⟨m, hm⟩ : ∃ m, (e.l.take 14).length = m := ⟨_, rfl⟩
        have hm14 : m ≤ 14 := by rw [← hm, List.length_take]; omega
        have HSH : Hid (∀ w', Ex wr w' → Calls Tryd.prog 16 #[.slice e.a e.len e.cap, I 14] w' (PostS w' m (e.l.take 14))) := Lib.hid fun w' k => by
          have := (short_any e.l 14 e.a e.cap w' (by omega) (by omega) k3 k4 (k5.ex k)).mono (postS hm)
          rwa [k1] at this
        have k4' := k5
        clear k1 k2 k3 k4 k5 k4'
        generalize e.l.take 14 = p at hm HSH
        have HM : Hid (p.length = m) := Lib.hid hm
        clear hm
        have HRo : Hid (∀ w' pa pc, Ex w w' → m ≤ pc → pc ≤ maxLen → SlD w' pa p → Calls Tryd.prog 59 #[I e.i, I e.n, .agg (rowB 32 (dF e.d)), .slice pa m pc] w' (Post w' (rootsV (RootsD e.i e.n e.d p)))) := Lib.hid fun w' pa pc k h1 h2 h3 => by
          have := Roots_any G e.i e.n e.d p pa pc w' k (by rw [HM.out]; exact h1) h2 h3
          rwa [HM.out] at this
        have HRr : Hid (∀ w' pa pc, m ≤ pc → pc ≤ maxLen → SlD w' pa p → Calls Tryd.prog 60 #[I e.i, I e.n, .agg (rowB 32 (dF e.d)), .slice pa m pc] w' (Post w' (rootsV (RootsD e.i e.n e.d p)))) := Lib.hid fun w' pa pc h1 h2 h3 => by
          have := refRoots_any e.i e.n e.d p pa pc w' (by rw [HM.out]; exact h1) h2 h3
          rwa [HM.out] at this
        have HEx : Hid (∀ x y w' pa pc, Ex w w' → m ≤ pc → pc ≤ maxLen → SlD w' pa p → Calls Tryd.prog 61 #[I e.i, I e.n, .agg (rowB 32 (dF x)), .agg (rowB 32 (dF y)), .slice pa m pc] w' (Post w' (.bool (decide (RootsD e.i e.n x p = some (x, y)))))) := Lib.hid fun x y w' pa pc k h1 h2 h3 => by
          have := extends_any G e.i e.n x y p pa pc w' k (by rw [HM.out]; exact h1) h2 h3
          rwa [HM.out] at this
        have HSm : Hid (∀ x y w' pa pc, m ≤ pc → pc ≤ maxLen → SlD w' pa p → Calls Tryd.prog 62 #[.agg e.cells, .agg (rowB 32 (dF x)), .agg (rowB 32 (dF y)), .slice pa m pc] w' (Post w' (.bool (decide (RootsD e.i e.n x p = some (x, y)))))) := Lib.hid fun x y w' pa pc h1 h2 h3 => by
          have := samerow_any e x y p pa pc w' (by rw [HM.out]; exact h1) h2 h3
          rwa [HM.out] at this
        have HSa : Hid (∀ w' xa xb xc xd, m ≤ xc → xc ≤ maxLen → m ≤ xd → xd ≤ maxLen → SlD w' xa p → SlD w' xb p → Calls Tryd.prog 21 #[.slice xa m xc, .slice xb m xd] w' (Post w' (.bool true))) := Lib.hid fun w' xa xb xc xd h1 h2 h3 h4 h5 h6 => by
          have := same_any p p xa xb xc xd w' (by rw [HM.out]; exact h1) h2 (by rw [HM.out]; exact h3) h4 h5 h6
          rwa [decide_eq_true rfl, HM.out] at this
        have tok1 : True := trivial
        cases ho : RootsD e.i e.n e.d p with
        | none =>
          rw [ho] at HRo HRr
          have HE0 : Hid (∀ w' pa pc, Ex w w' → m ≤ pc → pc ≤ maxLen → SlD w' pa p → Calls Tryd.prog 61 #[I e.i, I e.n, .agg (rowB 32 (dF e.d)), .agg (rowB 32 (dF z)), .slice pa m pc] w' (Post w' (.bool false))) := Lib.hid fun w' pa pc k h1 h2 h3 => by
            have := HEx.out e.d z w' pa pc k h1 h2 h3
            rw [ho] at this
            exact this
          have HR0 : Hid (∀ w' pa pc, Ex w w' → m ≤ pc → pc ≤ maxLen → SlD w' pa p → Calls Tryd.prog 59 #[I e.i, I e.n, .agg (rowB 32 (dF e.d)), .slice pa m pc] w' (Post w' (.tuple #[.agg (rowB 32 fun _ => 0), .agg (rowB 32 fun _ => 0), .bool false]))) := HRo
          have HR1 : Hid (∀ w' pa pc, m ≤ pc → pc ≤ maxLen → SlD w' pa p → Calls Tryd.prog 60 #[I e.i, I e.n, .agg (rowB 32 (dF e.d)), .slice pa m pc] w' (Post w' (.tuple #[.agg (rowB 32 fun _ => 0), .agg (rowB 32 fun _ => 0), .bool false]))) := HRr
          clear HEx HRo HRr ho HSm
          have e7 := eqF_same (fun _ => (0 : UInt8)) 32
          go_wp2_with (first | (go_at_call 16; have _t := tok1; clear tok1; (with_reducible refine (HSH.out _ (by (try show Ex _ _); repeat (first | (with_reducible exact ex_refl _) | (with_reducible assumption) | (with_reducible refine ex_drewL ?_) | (with_reducible refine ex_appR ?_ _) | (with_reducible refine ex_wx ?_ _) | (with_reducible refine ex_drew ?_) | (with_reducible refine ex_alloc ?_ _)))).mono ?_); rintro e w2 ⟨pa, pc, rfl, p1, p2, p3, psl, kx⟩; have K2 : Ex wr w2 := ex_trans (by (try show Ex _ _); repeat (first | (with_reducible exact ex_refl _) | (with_reducible assumption) | (with_reducible refine ex_drewL ?_) | (with_reducible refine ex_appR ?_ _) | (with_reducible refine ex_wx ?_ _) | (with_reducible refine ex_drew ?_) | (with_reducible refine ex_alloc ?_ _))) kx; clear p3; obtain ⟨s1, s2, s3, s4, s5⟩ := rowE_at (show Ex _ w2 from kx) (b := wr.heap.size) rfl) | (go_at_call 16; (with_reducible refine (HSH.out _ (by (try show Ex _ _); repeat (first | (with_reducible exact ex_refl _) | (with_reducible assumption) | (with_reducible refine ex_drewL ?_) | (with_reducible refine ex_appR ?_ _) | (with_reducible refine ex_wx ?_ _) | (with_reducible refine ex_drew ?_) | (with_reducible refine ex_alloc ?_ _)))).mono ?_); rintro e w3 ⟨qa, qc, rfl, q1, q2, q3, qsl, kx3⟩; have K3 : Ex wr w3 := ex_trans (by (try show Ex _ _); repeat (first | (with_reducible exact ex_refl _) | (with_reducible assumption) | (with_reducible refine ex_drewL ?_) | (with_reducible refine ex_appR ?_ _) | (with_reducible refine ex_wx ?_ _) | (with_reducible refine ex_drew ?_) | (with_reducible refine ex_alloc ?_ _))) kx3; have K4 : Ex w w3 := ex_trans kw K3; have KR := ex_trans (show Ex _ w2 from kx) (show Ex w2 w3 from kx3); replace psl := psl.ex kx3; clear s1 s2 s3 s4 s5; obtain ⟨r1, r2, r3, r4, r5⟩ := rowE_at KR (b := wr.heap.size) rfl; obtain ⟨r6, _⟩ := cells_ex KR (rowE_size e) (b := wr.heap.size) rfl; obtain ⟨b1, b2⟩ := HB.out w3 (ex_trans kr K3); have K5 : Ex w0 w3 := ex_trans kr K3; clear q3 K2 kx KR kx3 HSH))
          clear HB h1 hg r3
          generalize wr.heap.size = b6 at r1 r2 r4 r5 r6 ⊢
          go_wp2_with (first | (go_at_call 59; (with_reducible refine (HR0.out _ _ _ (by (try show Ex _ _); repeat (first | (with_reducible exact ex_refl _) | (with_reducible assumption) | (with_reducible refine ex_drewL ?_) | (with_reducible refine ex_appR ?_ _) | (with_reducible refine ex_wx ?_ _) | (with_reducible refine ex_drew ?_) | (with_reducible refine ex_alloc ?_ _))) p1 p2 (psl.ex (by (try show Ex _ _); repeat (first | (with_reducible exact ex_refl _) | (with_reducible assumption) | (with_reducible refine ex_drewL ?_) | (with_reducible refine ex_appR ?_ _) | (with_reducible refine ex_wx ?_ _) | (with_reducible refine ex_drew ?_) | (with_reducible refine ex_alloc ?_ _))))).mono ?_); rintro e6 w6 ⟨rfl, X6, rfl⟩) | (go_at_call 60; (with_reducible refine (HR1.out _ _ _ q1 q2 (qsl.ex (by (try show Ex _ _); repeat (first | (with_reducible exact ex_refl _) | (with_reducible assumption) | (with_reducible refine ex_drewL ?_) | (with_reducible refine ex_appR ?_ _) | (with_reducible refine ex_wx ?_ _) | (with_reducible refine ex_drew ?_) | (with_reducible refine ex_alloc ?_ _))))).mono ?_); rintro e7 w7 ⟨rfl, X7, rfl⟩) | (go_at_call 21; (with_reducible refine (HSa.out _ _ _ _ _ p1 p2 q1 q2 (psl.ex (by (try show Ex _ _); repeat (first | (with_reducible exact ex_refl _) | (with_reducible assumption) | (with_reducible refine ex_drewL ?_) | (with_reducible refine ex_appR ?_ _) | (with_reducible refine ex_wx ?_ _) | (with_reducible refine ex_drew ?_) | (with_reducible refine ex_alloc ?_ _)))) (qsl.ex (by (try show Ex _ _); repeat (first | (with_reducible exact ex_refl _) | (with_reducible assumption) | (with_reducible refine ex_drewL ?_) | (with_reducible refine ex_appR ?_ _) | (with_reducible refine ex_wx ?_ _) | (with_reducible refine ex_drew ?_) | (with_reducible refine ex_alloc ?_ _))))).mono ?_); rintro e9 w9 ⟨rfl, X9, rfl⟩))
          refine wp_region_seq [(0, true), (1, true), (2, true), (3, true), (4, true), (5, true), (6, true), (7, true), (9, true), (8, false), (10, true), (11, true), (12, true), (13, true), (14, true), (15, true), (16, true), (17, true), (18, true), (19, true), (20, true), (21, true), (22, true), (23, true), (24, true), (25, true), (26, true), (27, true), (28, true), (29, true), (30, true), (31, true), (33, true), (34, true), (35, true), (36, true), (32, false), (37, false), (38, true), (39, true), (40, true)] (by kernel_rfl) (by kernel_rfl) (fun _ _ d _ _ h => by cases d <;> exact h) ?_
          simp only [List.map_cons, List.map_nil, nth]
          repeat (first | ((with_reducible refine wpSeq_look ?_); go_big_quiet_step (fail); (with_reducible refine wpQuiet_nil ?_)) | ((with_reducible refine wpSeq_effF ?_ ?_); (focus rfl); go_simp) | ((with_reducible refine wpSeq_eff ?_ ?_); (focus rfl); (try dsimp only); go_wp2_with ((go_at_call 61; (with_reducible refine (HE0.out _ _ _ (by (try show Ex _ _); repeat (first | (with_reducible exact ex_refl _) | (with_reducible assumption) | (with_reducible refine ex_drewL ?_) | (with_reducible refine ex_appR ?_ _) | (with_reducible refine ex_wx ?_ _) | (with_reducible refine ex_drew ?_) | (with_reducible refine ex_alloc ?_ _))) p1 p2 (psl.ex (by (try show Ex _ _); repeat (first | (with_reducible exact ex_refl _) | (with_reducible assumption) | (with_reducible refine ex_drewL ?_) | (with_reducible refine ex_appR ?_ _) | (with_reducible refine ex_wx ?_ _) | (with_reducible refine ex_drew ?_) | (with_reducible refine ex_alloc ?_ _))))).mono ?_); rintro e8 w8 ⟨rfl, X8, rfl⟩)); refine mixQ_mk (by (try show Ex _ _); repeat (first | (with_reducible exact ex_refl _) | (with_reducible assumption) | (with_reducible refine ex_drewL ?_) | (with_reducible refine ex_appR ?_ _) | (with_reducible refine ex_wx ?_ _) | (with_reducible refine ex_drew ?_) | (with_reducible refine ex_alloc ?_ _))) ?_))
          refine wpSeq_nil ?_
          go_wp2
          refine ⟨⟨k + 1, by omega, by go_num, (by (try show Ex _ _); repeat (first | (with_reducible exact ex_refl _) | (with_reducible assumption) | (with_reducible refine ex_drewL ?_) | (with_reducible refine ex_appR ?_ _) | (with_reducible refine ex_wx ?_ _) | (with_reducible refine ex_drew ?_) | (with_reducible refine ex_alloc ?_ _)))⟩, by simp [intOf]; omega⟩
        | some r =>
          obtain ⟨u, v⟩ := r
          rw [ho] at HRo HRr
          have he1 := eqD u e.d
          have he2 := eqD v z
          have he3 := eqF_same (dF u) 32
          have he4 := eqF_same (dF v) 32
          have HE0 : Hid (∀ w' pa pc, Ex w w' → m ≤ pc → pc ≤ maxLen → SlD w' pa p → Calls Tryd.prog 61 #[I e.i, I e.n, .agg (rowB 32 (dF e.d)), .agg (rowB 32 (dF z)), .slice pa m pc] w' (Post w' (.bool (decide (u = e.d) && decide (v = z))))) := Lib.hid fun w' pa pc k h1 h2 h3 => by
            have := HEx.out e.d z w' pa pc k h1 h2 h3
            rw [ho, dec_pair] at this
            exact this
          have HE3 : Hid (∀ w' pa pc, Ex w w' → m ≤ pc → pc ≤ maxLen → SlD w' pa p → Calls Tryd.prog 61 #[I e.i, I e.n, .agg (rowB 32 (dF u)), .agg (rowB 32 (dF v)), .slice pa m pc] w' (Post w' (.bool (decide (RootsD e.i e.n u p = some (u, v)))))) := Lib.hid fun w' pa pc k h1 h2 h3 => HEx.out u v w' pa pc k h1 h2 h3
          have HS3 : Hid (∀ w' pa pc, m ≤ pc → pc ≤ maxLen → SlD w' pa p → Calls Tryd.prog 62 #[.agg e.cells, .agg (rowB 32 (dF u)), .agg (rowB 32 (dF v)), .slice pa m pc] w' (Post w' (.bool (decide (RootsD e.i e.n u p = some (u, v)))))) := Lib.hid fun w' pa pc h1 h2 h3 => HSm.out u v w' pa pc h1 h2 h3
          have HR0 : Hid (∀ w' pa pc, Ex w w' → m ≤ pc → pc ≤ maxLen → SlD w' pa p → Calls Tryd.prog 59 #[I e.i, I e.n, .agg (rowB 32 (dF e.d)), .slice pa m pc] w' (Post w' (.tuple #[.agg (rowB 32 (dF u)), .agg (rowB 32 (dF v)), .bool true]))) := HRo
          have HR1 : Hid (∀ w' pa pc, m ≤ pc → pc ≤ maxLen → SlD w' pa p → Calls Tryd.prog 60 #[I e.i, I e.n, .agg (rowB 32 (dF e.d)), .slice pa m pc] w' (Post w' (.tuple #[.agg (rowB 32 (dF u)), .agg (rowB 32 (dF v)), .bool true]))) := HRr
          generalize decide (RootsD e.i e.n u p = some (u, v)) = b3 at HE3 HS3
          generalize decide (u = e.d) = c1 at he1 HE0
          generalize decide (v = z) = c2 at he2 HE0
          clear HEx HRo HRr ho HSm
          go_wp2_with (first | (go_at_call 16; have _t := tok1; clear tok1; (with_reducible refine (HSH.out _ (by (try show Ex _ _); repeat (first | (with_reducible exact ex_refl _) | (with_reducible assumption) | (with_reducible refine ex_drewL ?_) | (with_reducible refine ex_appR ?_ _) | (with_reducible refine ex_wx ?_ _) | (with_reducible refine ex_drew ?_) | (with_reducible refine ex_alloc ?_ _)))).mono ?_); rintro e w2 ⟨pa, pc, rfl, p1, p2, p3, psl, kx⟩; have K2 : Ex wr w2 := ex_trans (by (try show Ex _ _); repeat (first | (with_reducible exact ex_refl _) | (with_reducible assumption) | (with_reducible refine ex_drewL ?_) | (with_reducible refine ex_appR ?_ _) | (with_reducible refine ex_wx ?_ _) | (with_reducible refine ex_drew ?_) | (with_reducible refine ex_alloc ?_ _))) kx; clear p3; obtain ⟨s1, s2, s3, s4, s5⟩ := rowE_at (show Ex _ w2 from kx) (b := wr.heap.size) rfl) | (go_at_call 16; (with_reducible refine (HSH.out _ (by (try show Ex _ _); repeat (first | (with_reducible exact ex_refl _) | (with_reducible assumption) | (with_reducible refine ex_drewL ?_) | (with_reducible refine ex_appR ?_ _) | (with_reducible refine ex_wx ?_ _) | (with_reducible refine ex_drew ?_) | (with_reducible refine ex_alloc ?_ _)))).mono ?_); rintro e w3 ⟨qa, qc, rfl, q1, q2, q3, qsl, kx3⟩; have K3 : Ex wr w3 := ex_trans (by (try show Ex _ _); repeat (first | (with_reducible exact ex_refl _) | (with_reducible assumption) | (with_reducible refine ex_drewL ?_) | (with_reducible refine ex_appR ?_ _) | (with_reducible refine ex_wx ?_ _) | (with_reducible refine ex_drew ?_) | (with_reducible refine ex_alloc ?_ _))) kx3; have K4 : Ex w w3 := ex_trans kw K3; have KR := ex_trans (show Ex _ w2 from kx) (show Ex w2 w3 from kx3); replace psl := psl.ex kx3; clear s1 s2 s3 s4 s5; obtain ⟨r1, r2, r3, r4, r5⟩ := rowE_at KR (b := wr.heap.size) rfl; obtain ⟨r6, _⟩ := cells_ex KR (rowE_size e) (b := wr.heap.size) rfl; obtain ⟨b1, b2⟩ := HB.out w3 (ex_trans kr K3); have K5 : Ex w0 w3 := ex_trans kr K3; clear q3 K2 kx KR kx3 HSH))
          clear HB h1 hg r3
          generalize wr.heap.size = b6 at r1 r2 r4 r5 r6 ⊢
          go_wp2_with (first | (go_at_call 59; (with_reducible refine (HR0.out _ _ _ (by (try show Ex _ _); repeat (first | (with_reducible exact ex_refl _) | (with_reducible assumption) | (with_reducible refine ex_drewL ?_) | (with_reducible refine ex_appR ?_ _) | (with_reducible refine ex_wx ?_ _) | (with_reducible refine ex_drew ?_) | (with_reducible refine ex_alloc ?_ _))) p1 p2 (psl.ex (by (try show Ex _ _); repeat (first | (with_reducible exact ex_refl _) | (with_reducible assumption) | (with_reducible refine ex_drewL ?_) | (with_reducible refine ex_appR ?_ _) | (with_reducible refine ex_wx ?_ _) | (with_reducible refine ex_drew ?_) | (with_reducible refine ex_alloc ?_ _))))).mono ?_); rintro e6 w6 ⟨rfl, X6, rfl⟩) | (go_at_call 60; (with_reducible refine (HR1.out _ _ _ q1 q2 (qsl.ex (by (try show Ex _ _); repeat (first | (with_reducible exact ex_refl _) | (with_reducible assumption) | (with_reducible refine ex_drewL ?_) | (with_reducible refine ex_appR ?_ _) | (with_reducible refine ex_wx ?_ _) | (with_reducible refine ex_drew ?_) | (with_reducible refine ex_alloc ?_ _))))).mono ?_); rintro e7 w7 ⟨rfl, X7, rfl⟩) | (go_at_call 21; (with_reducible refine (HSa.out _ _ _ _ _ p1 p2 q1 q2 (psl.ex (by (try show Ex _ _); repeat (first | (with_reducible exact ex_refl _) | (with_reducible assumption) | (with_reducible refine ex_drewL ?_) | (with_reducible refine ex_appR ?_ _) | (with_reducible refine ex_wx ?_ _) | (with_reducible refine ex_drew ?_) | (with_reducible refine ex_alloc ?_ _)))) (qsl.ex (by (try show Ex _ _); repeat (first | (with_reducible exact ex_refl _) | (with_reducible assumption) | (with_reducible refine ex_drewL ?_) | (with_reducible refine ex_appR ?_ _) | (with_reducible refine ex_wx ?_ _) | (with_reducible refine ex_drew ?_) | (with_reducible refine ex_alloc ?_ _))))).mono ?_); rintro e9 w9 ⟨rfl, X9, rfl⟩))
          cases c1 <;> cases c2 <;> simp only [Bool.false_and, Bool.true_and, Bool.and_false, Bool.and_true] at HE0
          all_goals
            refine wp_region_seq [(0, true), (1, true), (2, true), (3, true), (4, true), (5, true), (6, true), (7, true), (9, true), (8, false), (10, true), (11, true), (12, true), (13, true), (14, true), (15, true), (16, true), (17, true), (18, true), (19, true), (20, true), (21, true), (22, true), (23, true), (24, true), (25, true), (26, true), (27, true), (28, true), (29, true), (30, true), (31, true), (33, true), (34, true), (35, true), (36, true), (32, false), (37, false), (38, true), (39, true), (40, true)] (by kernel_rfl) (by kernel_rfl) (fun _ _ d _ _ h => by cases d <;> exact h) ?_
            simp only [List.map_cons, List.map_nil, nth]
            repeat (first | ((with_reducible refine wpSeq_look ?_); go_big_quiet_step (fail); (with_reducible refine wpQuiet_nil ?_)) | ((with_reducible refine wpSeq_effF ?_ ?_); (focus rfl); go_simp) | ((with_reducible refine wpSeq_eff ?_ ?_); (focus rfl); (try dsimp only); go_wp2_with ((first | (go_at_call 61; (with_reducible refine (HE0.out _ _ _ (by (try show Ex _ _); repeat (first | (with_reducible exact ex_refl _) | (with_reducible assumption) | (with_reducible refine ex_drewL ?_) | (with_reducible refine ex_appR ?_ _) | (with_reducible refine ex_wx ?_ _) | (with_reducible refine ex_drew ?_) | (with_reducible refine ex_alloc ?_ _))) p1 p2 (psl.ex (by (try show Ex _ _); repeat (first | (with_reducible exact ex_refl _) | (with_reducible assumption) | (with_reducible refine ex_drewL ?_) | (with_reducible refine ex_appR ?_ _) | (with_reducible refine ex_wx ?_ _) | (with_reducible refine ex_drew ?_) | (with_reducible refine ex_alloc ?_ _))))).mono ?_); rintro e8 w8 ⟨rfl, X8, rfl⟩) | (go_at_call 61; (with_reducible refine (HE3.out _ _ _ (by (try show Ex _ _); repeat (first | (with_reducible exact ex_refl _) | (with_reducible assumption) | (with_reducible refine ex_drewL ?_) | (with_reducible refine ex_appR ?_ _) | (with_reducible refine ex_wx ?_ _) | (with_reducible refine ex_drew ?_) | (with_reducible refine ex_alloc ?_ _))) p1 p2 (psl.ex (by (try show Ex _ _); repeat (first | (with_reducible exact ex_refl _) | (with_reducible assumption) | (with_reducible refine ex_drewL ?_) | (with_reducible refine ex_appR ?_ _) | (with_reducible refine ex_wx ?_ _) | (with_reducible refine ex_drew ?_) | (with_reducible refine ex_alloc ?_ _))))).mono ?_); rintro e8 w8 ⟨rfl, X9, rfl⟩) | (go_at_call 62; (with_reducible refine (HS3.out _ _ _ q1 q2 (qsl.ex (by (try show Ex _ _); repeat (first | (with_reducible exact ex_refl _) | (with_reducible assumption) | (with_reducible refine ex_drewL ?_) | (with_reducible refine ex_appR ?_ _) | (with_reducible refine ex_wx ?_ _) | (with_reducible refine ex_drew ?_) | (with_reducible refine ex_alloc ?_ _))))).mono ?_); rintro e8 w8 ⟨rfl, X10, rfl⟩))); refine mixQ_mk (by (try show Ex _ _); repeat (first | (with_reducible exact ex_refl _) | (with_reducible assumption) | (with_reducible refine ex_drewL ?_) | (with_reducible refine ex_appR ?_ _) | (with_reducible refine ex_wx ?_ _) | (with_reducible refine ex_drew ?_) | (with_reducible refine ex_alloc ?_ _))) ?_))
            refine wpSeq_nil ?_
            go_wp2
            refine ⟨⟨k + 1, by omega, by go_num, (by (try show Ex _ _); repeat (first | (with_reducible exact ex_refl _) | (with_reducible assumption) | (with_reducible refine ex_drewL ?_) | (with_reducible refine ex_appR ?_ _) | (with_reducible refine ex_wx ?_ _) | (with_reducible refine ex_drew ?_) | (with_reducible refine ex_alloc ?_ _)))⟩, by simp [intOf]; omega⟩
    · obtain rfl : k = n := by omega
      clear hlt hk
      go_wp2
      go_ret
      exact post_mk rfl (by (try show Ex _ _); repeat (first | (with_reducible exact ex_refl _) | (with_reducible assumption) | (with_reducible refine ex_drewL ?_) | (with_reducible refine ex_appR ?_ _) | (with_reducible refine ex_wx ?_ _) | (with_reducible refine ex_drew ?_) | (with_reducible refine ex_alloc ?_ _)))
end Go.Proofs.YtbobamifpjlmiaaDoor
