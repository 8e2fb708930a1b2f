import Derived.Test.YtbobamifpjlmiaaDoorMRefPrv

/- Spans that are the same. -/
set_option linter.unusedSimpArgs false
set_option linter.unusedVariables false
set_option maxRecDepth 20000
namespace Go.Proofs.YtbobamifpjlmiaaDoor
open Go.RowKit
theorem ss_facts {w wr : World} {t f t' f' : Value} {p q p' q' : Value} (k : Ex ((w.alloc (.cells #[t, f, p, q] 65)).alloc (.cells #[t', f', p', q'] 65)) wr) : wr.cell? ⟨w.heap.size, 3, none⟩ = some q ∧ wr.cell? ⟨w.heap.size + 1, 3, none⟩ = some q' ∧ w.heap.size + 1 < wr.heap.size := by
  have k1 : Ex (w.alloc (.cells #[t, f, p, q] 65)) wr := ex_trans (by (try show Ex _ _); repeat (first | (with_reducible exact ex_refl _) | (with_reducible assumption) | (with_reducible refine ex_drewL ?_) | (with_reducible refine ex_appR ?_ _) | (with_reducible refine ex_wx ?_ _) | (with_reducible refine ex_drew ?_) | (with_reducible refine ex_alloc ?_ _))) k
  have hb := ex_block k1 (heap_alloc_new w _)
  have hb2 := ex_block k (heap_alloc_new _ _)
  have h3 : (w.alloc (.cells #[t, f, p, q] 65)).heap.size = w.heap.size + 1 := by simp [go_sem]
  rw [h3] at hb2
  exact ⟨(block_cell hb rfl).1, (block_cell hb2 rfl).1, (Array.getElem?_eq_some_iff.1 hb2).1⟩
set_option maxHeartbeats 2000000 in
theorem samespan_same (t f : Int) (ps : List Pr) (qs : List Dg) (pa qa pa' qa' : Option Addr) (pc qc pc' qc' : Nat) (w : World) (h1 : ps.length ≤ pc) (h2 : pc ≤ maxLen) (h3 : SlP w pa ps) (h4 : ps.length ≤ pc') (h5 : pc' ≤ maxLen) (h6 : SlP w pa' ps)
    (g1 : qs.length ≤ qc) (g2 : qc ≤ maxLen) (g3 : SlD w qa qs) (g4 : qs.length ≤ qc') (g5 : qc' ≤ maxLen) (g6 : SlD w qa' qs) :
    Calls Tryd.prog 45 #[.agg #[I t, I f, .slice pa ps.length pc, .slice qa qs.length qc], .agg #[I t, I f, .slice pa' ps.length pc', .slice qa' qs.length qc']] w (Post w (.bool true)) := by
  have HSM : Hid (∀ w', Ex w w' → Calls Tryd.prog 51 #[.slice pa ps.length pc, .slice pa' ps.length pc'] w' (Post w' (.bool true))) := Lib.hid fun w' k => by
    have := sameP_any ps ps pa pa' pc pc' w' h1 h2 h4 h5 (h3.ex k) (h6.ex k)
    rwa [decide_eq_true rfl] at this
  have HG3 := Lib.hid g3
  have HG6 := Lib.hid g6
  obtain ⟨n, hn⟩ : ∃ n, qs.length = n := ⟨_, rfl⟩
  have HN := Lib.hid hn
  rw [hn] at g1 g4 ⊢
  generalize ps.length = m at *
  unfold maxLen at g2 g5
  clear h3 h6 g3 g6 hn
  have et : (t == t) = true := beq_self_eq_true t
  have ef : (f == f) = true := beq_self_eq_true f
  have en : ((n : Int) == n) = true := beq_self_eq_true _
  go_enter Tryd.func45, Tryd.ntmps45
  go_wp2_with (go_at_call 51; (with_reducible refine (HSM.out _ (by (try show Ex _ _); repeat (first | (with_reducible exact ex_refl _) | (with_reducible assumption) | (with_reducible refine ex_drewL ?_) | (with_reducible refine ex_appR ?_ _) | (with_reducible refine ex_wx ?_ _) | (with_reducible refine ex_drew ?_) | (with_reducible refine ex_alloc ?_ _)))).mono ?_); rintro e w2 ⟨rfl, X, rfl⟩)
  go_loopw [5] (fun i wr => ∃ k : Nat, k ≤ n ∧ i = I k ∧ Ex ((w.alloc (.cells #[I t, I f, .slice pa m pc, .slice qa n qc] 65)).alloc (.cells #[I t, I f, .slice pa' m pc', .slice qa' n qc'] 65)) wr) (fun i _ => n - (intOf i).toNat)
  case atStart => exact ⟨0, by omega, rfl, (by (try show Ex _ _); repeat (first | (with_reducible exact ex_refl _) | (with_reducible assumption) | (with_reducible refine ex_drewL ?_) | (with_reducible refine ex_appR ?_ _) | (with_reducible refine ex_wx ?_ _) | (with_reducible refine ex_drew ?_) | (with_reducible refine ex_alloc ?_ _)))⟩
  case round =>
    obtain ⟨k, hk, rfl, kr⟩ := hrel
    obtain ⟨s1, s2, s3⟩ := ss_facts kr
    have Kw : Ex w wr := ex_trans (by (try show Ex _ _); repeat (first | (with_reducible exact ex_refl _) | (with_reducible assumption) | (with_reducible refine ex_drewL ?_) | (with_reducible refine ex_appR ?_ _) | (with_reducible refine ex_wx ?_ _) | (with_reducible refine ex_drew ?_) | (with_reducible refine ex_alloc ?_ _))) kr
    by_cases hlt : k < n
    · have hlt2 : k < qs.length := by have := HN.out; omega
      obtain ⟨g, off, rfl, hg, hc⟩ := (HG3.out.ex Kw).pos (by omega)
      obtain ⟨g', off', rfl, hg', hc'⟩ := (HG6.out.ex Kw).pos (by omega)
      have r1 := hc k _ (List.getElem?_eq_getElem hlt2)
      have r2 := hc' k _ (List.getElem?_eq_getElem hlt2)
      generalize qs[k] = d at r1 r2
      have r3 := eqF_same (dF d) 32
      clear hc hc' hlt2
      go_wp2
      refine wp_region_seq [(0, true), (1, true), (2, true), (3, true), (4, true), (5, true), (6, true), (7, true), (8, true), (9, true), (10, true)] (by kernel_rfl) (by kernel_rfl) (fun _ _ d _ _ h => by cases d <;> exact h) ?_
      simp only [List.map_cons, List.map_nil, nth]
      repeat (first | ((with_reducible refine wpSeq_look ?_); go_big_quiet_step (fail); (with_reducible refine wpQuiet_nil ?_)) | ((with_reducible refine wpSeq_effF ?_ ?_); (focus rfl); go_simp) | ((with_reducible refine wpSeq_eff ?_ ?_); (focus rfl); (try dsimp only); go_wp2_with (fail); refine mixQ_mk (by (try show Ex _ _); repeat (first | (with_reducible exact ex_refl _) | (with_reducible assumption) | (with_reducible refine ex_drewL ?_) | (with_reducible refine ex_appR ?_ _) | (with_reducible refine ex_wx ?_ _) | (with_reducible refine ex_drew ?_) | (with_reducible refine ex_alloc ?_ _))) ?_))
      refine wpSeq_nil ?_
      go_wp2
      refine ⟨⟨k + 1, by omega, by go_num, (by (try show Ex _ _); repeat (first | (with_reducible exact ex_refl _) | (with_reducible assumption) | (with_reducible refine ex_drewL ?_) | (with_reducible refine ex_appR ?_ _) | (with_reducible refine ex_wx ?_ _) | (with_reducible refine ex_drew ?_) | (with_reducible refine ex_alloc ?_ _)))⟩, by simp [intOf]; omega⟩
    · obtain rfl : k = n := by omega
      clear hlt hk
      go_wp2
      go_ret
      exact post_mk rfl (by (try show Ex _ _); repeat (first | (with_reducible exact ex_refl _) | (with_reducible assumption) | (with_reducible refine ex_drewL ?_) | (with_reducible refine ex_appR ?_ _) | (with_reducible refine ex_wx ?_ _) | (with_reducible refine ex_drew ?_) | (with_reducible refine ex_alloc ?_ _)))
end Go.Proofs.YtbobamifpjlmiaaDoor

/- Three pairs: what the search makes of them. -/
set_option linter.unusedSimpArgs false
set_option linter.unusedVariables false
set_option maxRecDepth 20000
namespace Go.Proofs.YtbobamifpjlmiaaDoor
open Go.RowKit
def pA : Pr := (⟨#[97]⟩, ⟨#[49]⟩)
def pB : Pr := (⟨#[98]⟩, ⟨#[50]⟩)
def pC : Pr := (⟨#[99]⟩, ⟨#[51]⟩)
def threeP : List Pr := [pA, pB, pC]
def rgD : Rg := ⟨⟨#[100]⟩, ⟨#[]⟩, true⟩
theorem spl3 : splitN 3 = 2 := by decide +kernel
theorem spl2 : splitN 2 = 1 := by decide +kernel
theorem threeP_right : rightP threeP = true := by decide +kernel
theorem threeP_below : belowN threeP rgD.lo = 3 := by decide +kernel
theorem threeP_first : firstP threeP rgD = 2 := by unfold firstP; rw [threeP_below]
theorem threeP_end : endP threeP rgD = 3 := by decide +kernel
theorem threeP_pairs : pairsP threeP rgD = [pC] := by unfold pairsP; rw [threeP_first, threeP_end]; rfl
theorem top_ab : topP [pA, pB] = nodeD (leafP pA) (leafP pB) := by
  rw [topP_two (by decide)]
  show nodeD (topP ([pA, pB].take (splitN 2))) (topP ([pA, pB].drop (splitN 2))) = _
  rw [spl2]
  show nodeD (topP [pA]) (topP [pB]) = _
  rw [topP_one, topP_one]
theorem threeP_root : rootP threeP = crownD 3 (nodeD (nodeD (leafP pA) (leafP pB)) (leafP pC)) := by
  unfold rootP
  show crownD 3 (topP threeP) = _
  rw [topP_two (l := threeP) (by decide)]
  show crownD 3 (nodeD (topP (threeP.take (splitN 3))) (topP (threeP.drop (splitN 3)))) = _
  rw [spl3]
  show crownD 3 (nodeD (topP [pA, pB]) (topP [pC])) = _
  rw [top_ab, topP_one]
theorem threeP_path : pathS threeP rgD = [topP [pA, pB]] := by
  rw [pathS_doc threeP rgD (by decide), threeP_first, threeP_end, pathR_two (l := threeP) (by decide) (by decide)]
  show pathR (threeP.take (splitN 3)) 0 2 3 ++ pathR (threeP.drop (splitN 3)) (0 + splitN 3) 2 3 = _
  rw [spl3]
  show pathR [pA, pB] 0 2 3 ++ pathR [pC] 2 2 3 = _
  rw [pathR_out (.inl (by decide)), pathR_one (by decide) (by decide)]
  rfl
theorem threeP_tree (x : Dg) : treeD (FT [pC] [x] 2) 0 3 0 = (nodeD x (leafP pC), 1) := by
  rw [tree_more (s1 := 0) (by unfold FT; rw [if_neg (by decide), if_neg (by decide)]) (by decide), spl3]
  rw [tree_done (at_ := 0) (n := 2) (d := x) (s1 := 1) (by unfold FT; rw [if_pos (by decide)]; rfl)]
  show (nodeD x (treeD (FT [pC] [x] 2) 2 1 1).1, (treeD (FT [pC] [x] 2) 2 1 1).2) = _
  rw [tree_done (at_ := 2) (n := 1) (d := leafP pC) (s1 := 1) (by unfold FT; rw [if_neg (by decide), if_pos rfl]; rfl)]
theorem threeP_top : topS 3 2 [pC] [topP [pA, pB]] = some (rootP threeP) := by
  unfold topS
  rw [if_pos (by decide +kernel), if_neg (by decide), if_neg (by decide)]
  show (if (treeD (FT [pC] [topP [pA, pB]] 2) 0 3 0).2 = 1 then some (crownD 3 (treeD (FT [pC] [topP [pA, pB]] 2) 0 3 0).1) else none) = _
  rw [threeP_tree, if_pos rfl, threeP_root, top_ab]
theorem threeP_ver : verS (rootP threeP) rgD 3 2 [pC] [topP [pA, pB]] = some [] := by
  unfold verS
  rw [threeP_top, if_pos rfl, if_neg (by decide), if_neg (by decide +kernel)]
  exact congrArg some (by decide +kernel)
end Go.Proofs.YtbobamifpjlmiaaDoor

/- wakes of the search: it does something. -/
set_option linter.unusedSimpArgs false
set_option linter.unusedVariables false
set_option maxRecDepth 20000
namespace Go.Proofs.YtbobamifpjlmiaaDoor
open Go.RowKit
def C6 : Array Value := #[.string ⟨#[97]⟩, .string ⟨#[49]⟩, .string ⟨#[98]⟩, .string ⟨#[50]⟩, .string ⟨#[99]⟩, .string ⟨#[51]⟩]
@[go_sem] theorem buildRun3_cell (w : World) : buildRun3 Tryd.prog 53 (.agg #[.string ⟨#[97]⟩, .string ⟨#[49]⟩]) (.agg #[.string ⟨#[98]⟩, .string ⟨#[50]⟩]) (.agg #[.string ⟨#[99]⟩, .string ⟨#[51]⟩]) w = .ok (.value (.slice (some ⟨w.heap.size, 0, none⟩) 3 3)) (w.alloc (.cells C6 80)) := by
  unfold buildRun3
  have hi : (Tryd.prog.info? 80).map (fun i => (i.zero, i.size)) = some (some (.agg #[.string ⟨#[]⟩, .string ⟨#[]⟩]), 2) := by kernel_rfl
  obtain ⟨i, hi1, hi2⟩ := Option.map_eq_some_iff.1 hi
  simp only [Prod.mk.injEq] at hi2
  simp [Instr.buildSlice, run_underlying Tryd.underlying53, Go.sizeOf, typeInfo, zeroValue, hi1, hi2.1, hi2.2, Instr.fill, Value.cells, newRow, go_sem]
  rfl
theorem slp_three {w w' : World} {g : Nat} (k : Ex (w.alloc (.cells C6 80)) w') (hg : g = w.heap.size) : SlP w' (some ⟨g, 0, none⟩) threeP := by
  subst hg
  have hb := ex_block k (heap_alloc_new w _)
  refine ⟨Or.inr ⟨_, 0, rfl, (Array.getElem?_eq_some_iff.1 hb).1, fun i e he => ?_⟩⟩
  have hi : i < 3 := (List.getElem?_eq_some_iff.1 he).1
  have hc : ∀ j, w'.cell? ⟨w.heap.size, j, none⟩ = C6[j]? := fun j => cell_of_row w' w.heap.size j C6 _ (0, 0) hb
  refine cellsN_some.2 ⟨rfl, fun j hj => ?_⟩
  rw [hc]
  have h3 : i = 0 ∨ i = 1 ∨ i = 2 := by omega
  have h2 : j = 0 ∨ j = 1 := by omega
  rcases h3 with rfl | rfl | rfl <;> rcases h2 with rfl | rfl <;> (cases he; rfl)
set_option maxHeartbeats 4000000 in
theorem wakesP_any (w : World) (G : Glob w) : Calls Tryd.prog 34 #[] w (Post w (.bool true)) := by
  have HRt : Hid (∀ a w', Ex w w' → SlP w' a threeP → Calls Tryd.prog 37 #[.slice a 3 3] w' (Post w' (.tuple #[.agg (rowB 32 (dF (rootP threeP))), I 0]))) := Lib.hid fun a w' k hs => by
    have := sroot_any (G.ex k) threeP a 3 w' (ex_refl _) (by decide) (by decide) hs
    unfold rootR chkP at this
    rwa [if_pos threeP_right, if_pos threeP_right] at this
  have HPr : Hid (∀ a w', Ex w w' → a ≠ none → SlP w' a threeP → Calls Tryd.prog 44 #[.slice a 3 3, .agg #[.string ⟨#[100]⟩, .string ⟨#[]⟩, .bool true]] w' (PostSp w' 3 2 [pC] [topP [pA, pB]] 0)) := Lib.hid fun a w' k ha hs => by
    have := prove_any (G.ex k) threeP rgD a 3 w' (ex_refl _) (by decide) (by decide) (fun h => absurd h ha) hs threeP_right
    rwa [threeP_first, threeP_pairs, threeP_path] at this
  have HVe : Hid (∀ pa pc qa qc w', Ex w w' → 1 ≤ pc → pc ≤ maxLen → 1 ≤ qc → qc ≤ maxLen → SlP w' pa [pC] → SlD w' qa [topP [pA, pB]] → Calls Tryd.prog 49 #[.agg (rowB 32 (dF (rootP threeP))), .agg #[.string ⟨#[100]⟩, .string ⟨#[]⟩, .bool true], .agg #[I 3, I 2, .slice pa 1 pc, .slice qa 1 qc]] w' (PostV w' [] 0)) := Lib.hid fun pa pc qa qc w' k h1 h2 h3 h4 h5 h6 => by
    have := verify_any (G.ex k) (rootP threeP) rgD 3 2 [pC] [topP [pA, pB]] pa qa pc qc w' (ex_refl _) h1 h2 h3 h4 h5 h6
    rwa [threeP_ver] at this
  have HLA : Hid (∀ w', Ex w w' → Calls Tryd.prog 52 #[.agg #[.string ⟨#[97]⟩, .string ⟨#[49]⟩]] w' (Post w' (.agg (rowB 32 (dF (leafP pA)))))) := Lib.hid fun w' k => sleaf_any G pA w' k
  have HLB : Hid (∀ w', Ex w w' → Calls Tryd.prog 52 #[.agg #[.string ⟨#[98]⟩, .string ⟨#[50]⟩]] w' (Post w' (.agg (rowB 32 (dF (leafP pB)))))) := Lib.hid fun w' k => sleaf_any G pB w' k
  have HLC : Hid (∀ w', Ex w w' → Calls Tryd.prog 52 #[.agg #[.string ⟨#[99]⟩, .string ⟨#[51]⟩]] w' (Post w' (.agg (rowB 32 (dF (leafP pC)))))) := Lib.hid fun w' k => sleaf_any G pC w' k
  have HJ1 : Hid (∀ w', Ex w w' → Calls Tryd.prog 55 #[.agg (rowB 32 (dF (leafP pA))), .agg (rowB 32 (dF (leafP pB)))] w' (Post w' (.agg (rowB 32 (dF (nodeD (leafP pA) (leafP pB))))))) := Lib.hid fun w' k => sjoin_any G _ _ w' k
  have HJ2 : Hid (∀ w', Ex w w' → Calls Tryd.prog 55 #[.agg (rowB 32 (dF (nodeD (leafP pA) (leafP pB)))), .agg (rowB 32 (dF (leafP pC)))] w' (Post w' (.agg (rowB 32 (dF (nodeD (nodeD (leafP pA) (leafP pB)) (leafP pC))))))) := Lib.hid fun w' k => sjoin_any G _ _ w' k
  have HCr : Hid (∀ w', Ex w w' → Calls Tryd.prog 57 #[I 3, .agg (rowB 32 (dF (nodeD (nodeD (leafP pA) (leafP pB)) (leafP pC))))] w' (Post w' (.agg (rowB 32 (dF (rootP threeP)))))) := Lib.hid fun w' k => by
    have := scrown_any G 3 (nodeD (nodeD (leafP pA) (leafP pB)) (leafP pC)) w' k
    rwa [← threeP_root] at this
  generalize nodeD (nodeD (leafP pA) (leafP pB)) (leafP pC) = d5 at *
  generalize nodeD (leafP pA) (leafP pB) = d4 at *
  generalize leafP pA = d1 at *
  generalize leafP pB = d2 at *
  generalize leafP pC = d3 at *
  generalize topP [pA, pB] = d6 at *
  generalize rootP threeP = R at *
  have hE := eqF_same (dF R) 32
  go_enter Tryd.func34, Tryd.ntmps34
  go_wp2_with (first | (go_at_call 37; (refine (HRt.out _ _ (by (try show Ex _ _); repeat (first | (with_reducible exact ex_refl _) | (with_reducible assumption) | (with_reducible refine ex_drewL ?_) | (with_reducible refine ex_appR ?_ _) | (with_reducible refine ex_wx ?_ _) | (with_reducible refine ex_drew ?_) | (with_reducible refine ex_alloc ?_ _))) (slp_three (by (try show Ex _ _); repeat (first | (with_reducible exact ex_refl _) | (with_reducible assumption) | (with_reducible refine ex_drewL ?_) | (with_reducible refine ex_appR ?_ _) | (with_reducible refine ex_wx ?_ _) | (with_reducible refine ex_drew ?_) | (with_reducible refine ex_alloc ?_ _))) (by simp [go_sem]))).mono ?_); rintro e w2 ⟨rfl, X1, rfl⟩) | (go_at_call 44; (refine (HPr.out _ _ (by (try show Ex _ _); repeat (first | (with_reducible exact ex_refl _) | (with_reducible assumption) | (with_reducible refine ex_drewL ?_) | (with_reducible refine ex_appR ?_ _) | (with_reducible refine ex_wx ?_ _) | (with_reducible refine ex_drew ?_) | (with_reducible refine ex_alloc ?_ _))) (by simp) (slp_three (by (try show Ex _ _); repeat (first | (with_reducible exact ex_refl _) | (with_reducible assumption) | (with_reducible refine ex_drewL ?_) | (with_reducible refine ex_appR ?_ _) | (with_reducible refine ex_wx ?_ _) | (with_reducible refine ex_drew ?_) | (with_reducible refine ex_alloc ?_ _))) (by simp [go_sem]))).mono ?_); rintro e w2 ⟨pa, pc, qa, qc, rfl, ⟨p1, p2, _, p4⟩, ⟨q1, q2, _, q4⟩, X2, rfl⟩; (try simp only [wx_wx] at p4 q4); replace p4 := Lib.hid p4; replace q4 := Lib.hid q4) | (go_at_call 49; (refine (HVe.out _ _ _ _ _ (by (try show Ex _ _); repeat (first | (with_reducible exact ex_refl _) | (with_reducible assumption) | (with_reducible refine ex_drewL ?_) | (with_reducible refine ex_appR ?_ _) | (with_reducible refine ex_wx ?_ _) | (with_reducible refine ex_drew ?_) | (with_reducible refine ex_alloc ?_ _))) p1 p2 q1 q2 (p4.out.ex (by (try show Ex _ _); repeat (first | (with_reducible exact ex_refl _) | (with_reducible assumption) | (with_reducible refine ex_drewL ?_) | (with_reducible refine ex_appR ?_ _) | (with_reducible refine ex_wx ?_ _) | (with_reducible refine ex_drew ?_) | (with_reducible refine ex_alloc ?_ _)))) (q4.out.ex (by (try show Ex _ _); repeat (first | (with_reducible exact ex_refl _) | (with_reducible assumption) | (with_reducible refine ex_drewL ?_) | (with_reducible refine ex_appR ?_ _) | (with_reducible refine ex_wx ?_ _) | (with_reducible refine ex_drew ?_) | (with_reducible refine ex_alloc ?_ _))))).mono ?_); rintro e w2 ⟨v, rfl, hv, X3, rfl⟩; obtain ⟨va, vc, rfl, _⟩ := hv.slg; clear hv))
  clear HRt HPr HVe
  refine wp_region_seq [(0, true), (1, true), (2, true), (3, true), (4, true), (5, true), (6, true), (7, true), (8, true), (9, true), (10, true), (11, true), (12, true), (14, true), (17, true), (13, false), (15, false), (16, false), (18, false), (19, false), (20, false), (21, true), (22, true), (23, true), (24, true), (25, true), (26, true), (27, true), (28, true), (29, true), (30, true), (31, true), (32, true), (33, true), (34, true), (35, true), (36, true), (37, true), (38, true), (39, true), (40, true)] (by kernel_rfl) (by kernel_rfl) (fun _ _ d _ _ h => by cases d <;> exact h) ?_
  simp only [List.map_cons, List.map_nil, nth]
  repeat (first | ((with_reducible refine wpSeq_look ?_); go_big_quiet_step (fail); (with_reducible refine wpQuiet_nil ?_)) | ((with_reducible refine wpSeq_effF ?_ ?_); (focus rfl); go_simp) | ((with_reducible refine wpSeq_eff ?_ ?_); (focus rfl); (try dsimp only); go_wp2_with (first | (go_at_call 52; (with_reducible refine (HLA.out _ (by (try show Ex _ _); repeat (first | (with_reducible exact ex_refl _) | (with_reducible assumption) | (with_reducible refine ex_drewL ?_) | (with_reducible refine ex_appR ?_ _) | (with_reducible refine ex_wx ?_ _) | (with_reducible refine ex_drew ?_) | (with_reducible refine ex_alloc ?_ _)))).mono ?_); rintro e w2 ⟨rfl, X, rfl⟩) | (go_at_call 52; (with_reducible refine (HLB.out _ (by (try show Ex _ _); repeat (first | (with_reducible exact ex_refl _) | (with_reducible assumption) | (with_reducible refine ex_drewL ?_) | (with_reducible refine ex_appR ?_ _) | (with_reducible refine ex_wx ?_ _) | (with_reducible refine ex_drew ?_) | (with_reducible refine ex_alloc ?_ _)))).mono ?_); rintro e w2 ⟨rfl, X, rfl⟩) | (go_at_call 52; (with_reducible refine (HLC.out _ (by (try show Ex _ _); repeat (first | (with_reducible exact ex_refl _) | (with_reducible assumption) | (with_reducible refine ex_drewL ?_) | (with_reducible refine ex_appR ?_ _) | (with_reducible refine ex_wx ?_ _) | (with_reducible refine ex_drew ?_) | (with_reducible refine ex_alloc ?_ _)))).mono ?_); rintro e w2 ⟨rfl, X, rfl⟩) | (go_at_call 55; (with_reducible refine (HJ1.out _ (by (try show Ex _ _); repeat (first | (with_reducible exact ex_refl _) | (with_reducible assumption) | (with_reducible refine ex_drewL ?_) | (with_reducible refine ex_appR ?_ _) | (with_reducible refine ex_wx ?_ _) | (with_reducible refine ex_drew ?_) | (with_reducible refine ex_alloc ?_ _)))).mono ?_); rintro e w2 ⟨rfl, X, rfl⟩) | (go_at_call 55; (with_reducible refine (HJ2.out _ (by (try show Ex _ _); repeat (first | (with_reducible exact ex_refl _) | (with_reducible assumption) | (with_reducible refine ex_drewL ?_) | (with_reducible refine ex_appR ?_ _) | (with_reducible refine ex_wx ?_ _) | (with_reducible refine ex_drew ?_) | (with_reducible refine ex_alloc ?_ _)))).mono ?_); rintro e w2 ⟨rfl, X, rfl⟩) | (go_at_call 57; (with_reducible refine (HCr.out _ (by (try show Ex _ _); repeat (first | (with_reducible exact ex_refl _) | (with_reducible assumption) | (with_reducible refine ex_drewL ?_) | (with_reducible refine ex_appR ?_ _) | (with_reducible refine ex_wx ?_ _) | (with_reducible refine ex_drew ?_) | (with_reducible refine ex_alloc ?_ _)))).mono ?_); rintro e w2 ⟨rfl, X, rfl⟩)); refine mixQ_mk (by (try show Ex _ _); repeat (first | (with_reducible exact ex_refl _) | (with_reducible assumption) | (with_reducible refine ex_drewL ?_) | (with_reducible refine ex_appR ?_ _) | (with_reducible refine ex_wx ?_ _) | (with_reducible refine ex_drew ?_) | (with_reducible refine ex_alloc ?_ _))) ?_))
  refine wpSeq_nil ?_
  all_goals
    go_wp2
    go_ret
    exact post_mk rfl (by (try show Ex _ _); repeat (first | (with_reducible exact ex_refl _) | (with_reducible assumption) | (with_reducible refine ex_drewL ?_) | (with_reducible refine ex_appR ?_ _) | (with_reducible refine ex_wx ?_ _) | (with_reducible refine ex_drew ?_) | (with_reducible refine ex_alloc ?_ _)))
end Go.Proofs.YtbobamifpjlmiaaDoor
