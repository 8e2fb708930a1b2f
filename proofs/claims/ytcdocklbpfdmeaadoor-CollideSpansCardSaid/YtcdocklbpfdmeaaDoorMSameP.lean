import Derived.Test.YtcdocklbpfdmeaaDoorMPrv

/- Are pairs the same? -/
set_option linter.unusedSimpArgs false
set_option linter.unusedVariables false
set_option maxRecDepth 20000
namespace Go.Proofs.YtcdocklbpfdmeaaDoor
open Go.RowKit
theorem beqS (a b : ByteArray) : (a == b) = decide (a = b) := by
  rw [Bool.eq_iff_iff]
  cases a with | mk x =>
  cases b with | mk y =>
  have h : ((⟨x⟩ : ByteArray) == ⟨y⟩) = (x == y) := rfl
  rw [h]
  simp
theorem eqIn_str (d : Nat) (a b : ByteArray) (w : World) : (Op.equalIn (d + 1) 9 (.string a) (.string b)).run Tryd.prog w = .ok (a == b) w := by
  unfold Op.equalIn
  simp [run_underlying Tryd.underlying9]
theorem part_str (zs : Array Value) (i : Nat) (s : ByteArray) (h : zs[i]? = some (.string s)) (w : World) : (part 9 zs i).run Tryd.prog w = .ok (.string s) w := by
  obtain ⟨j, hj, hs⟩ : ∃ j, Tryd.prog.info? 9 = some j ∧ j.size = 1 := by
    have hi : (Tryd.prog.info? 9).map (·.size) = some 1 := by kernel_rfl
    obtain ⟨j, h1, h2⟩ := Option.map_eq_some_iff.1 hi
    exact ⟨j, h1, h2⟩
  have hrow : (isAgg 9).run Tryd.prog w = .ok false w := by simp [isAgg, run_underlying Tryd.underlying9]
  have hce : Tryd.prog.cellsOf 9 = 1 := by unfold Program.cellsOf; rw [hj]; simp [hs]
  simp [part, run_sizeOf w hj, hce, hrow, h]
theorem eqIn_cell (a b c d : ByteArray) (w : World) : (Op.equal 42 (.agg #[.string a, .string b]) (.agg #[.string c, .string d])).run Tryd.prog w = .ok ((a == c) && (b == d)) w := by
  unfold Op.equal Op.maxDepth
  unfold Op.equalIn
  have hst : Tryd.prog.stoodInHeld 42 = false := by kernel_rfl
  have p0 : ∀ (x y : ByteArray) (w : World), (part 9 #[.string x, .string y] 0).run Tryd.prog w = .ok (.string x) w := fun x y w => part_str _ _ _ rfl w
  have p1 : ∀ (x y : ByteArray) (w : World), (part 9 #[.string x, .string y] 1).run Tryd.prog w = .ok (.string y) w := fun x y w => part_str _ _ _ rfl w
  have e0 : ∀ (x y : ByteArray) (w : World), (Op.equalIn 9999 9 (.string x) (.string y)).run Tryd.prog w = .ok (x == y) w := fun x y w => eqIn_str 9998 x y w
  simp [run_underlying Tryd.underlying42, hst, p0, p1, e0]
  cases (a == c) <;> cases (b == d) <;> simp
@[go_sem high] theorem eql_cell (a b c d : ByteArray) (w : World) : (binOp .eql 42 (.agg #[.string a, .string b]) (.agg #[.string c, .string d])).run Tryd.prog w = .ok (.bool ((a == c) && (b == d))) w := by
  rw [run_eql_struct]
  have := eqIn_cell a b c d w
  unfold Op.equal Op.maxDepth at this
  rw [this]
  rfl
@[go_sem high] theorem neq_cell (a b c d : ByteArray) (w : World) : (binOp .neq 42 (.agg #[.string a, .string b]) (.agg #[.string c, .string d])).run Tryd.prog w = .ok (.bool (!((a == c) && (b == d)))) w := by
  rw [run_neq_struct]
  have := eqIn_cell a b c d w
  unfold Op.equal Op.maxDepth at this
  rw [this]
  rfl
theorem pr_ext {l m : List Pr} (hl : l.length = m.length) (h : ∀ i, i < l.length → prAt l i = prAt m i) : l = m := by
  apply List.ext_getElem?
  intro i
  by_cases hi : i < l.length
  · rw [prAt_get hi, prAt_get (by omega), h i hi]
  · rw [List.getElem?_eq_none (by omega), List.getElem?_eq_none (by omega)]
set_option maxHeartbeats 1000000 in
theorem sameP_any (l m : List Pr) (a b : Option Addr) (c d : Nat) (w : World) (hc : l.length ≤ c) (hcm : c ≤ maxLen) (hd : m.length ≤ d) (hdm : d ≤ maxLen) (hs : SlP w a l) (ht : SlP w b m) :
    Calls Tryd.prog 94 #[.slice a l.length c, .slice b m.length d] w (Post w (.bool (decide (l = m)))) := by
  by_cases hlm : l.length = m.length
  · have HS : Hid (∀ W, Ex w W → ∀ i, i < m.length → ∃ g off, a = some ⟨g, off, none⟩ ∧ g < W.heap.size ∧ cellsN W g (off + i * 2) 2 = some (PC (prAt l i)) ∧ W.cell? ⟨g, off + i * 2, none⟩ = some (.string (prAt l i).1) ∧ W.cell? ⟨g, off + i * 2 + 1, none⟩ = some (.string (prAt l i).2)) := Lib.hid fun W k i hi => (hs.ex k).row (by omega)
    have HT : Hid (∀ W, Ex w W → ∀ i, i < m.length → ∃ g off, b = some ⟨g, off, none⟩ ∧ g < W.heap.size ∧ cellsN W g (off + i * 2) 2 = some (PC (prAt m i)) ∧ W.cell? ⟨g, off + i * 2, none⟩ = some (.string (prAt m i).1) ∧ W.cell? ⟨g, off + i * 2 + 1, none⟩ = some (.string (prAt m i).2)) := Lib.hid fun W k i hi => (ht.ex k).row hi
    have H1 : Hid ((∀ i, i < m.length → prAt l i = prAt m i) → decide (l = m) = true) := Lib.hid fun h => decide_eq_true (pr_ext hlm (by rw [hlm]; exact h))
    have H0 : Hid (∀ i, i < m.length → prAt l i ≠ prAt m i → decide (l = m) = false) := Lib.hid fun i hi h => decide_eq_false fun e => h (by rw [e])
    rw [hlm] at hc ⊢
    generalize decide (l = m) = ov at H0 H1 ⊢
    generalize m.length = n at *
    generalize prAt l = p at HS H0 H1
    generalize prAt m = q at HT H0 H1
    clear hlm hs ht
    unfold maxLen at hcm hdm
    go_enter Tryd.func94, Tryd.ntmps94
    go_wp2
    go_loopw [5] (fun i wr => ∃ k : Nat, k ≤ n ∧ i = I k ∧ Hid (∀ i, i < k → p i = q i) ∧ Ex w wr) (fun i _ => n - (intOf i).toNat)
    case atStart => exact ⟨0, by omega, rfl, Lib.hid (fun i hi => absurd hi (by omega)), (by (try show Ex _ _); with_reducible repeat (first | exact ex_refl _ | assumption | refine ex_drewL ?_ | refine ex_appR ?_ _ | refine ex_wx ?_ _ | refine ex_drew ?_ | refine ex_alloc ?_ _))⟩
    case round =>
      obtain ⟨k, hk, rfl, HK, kr⟩ := hrel
      by_cases hlt : k < n
      · obtain ⟨g, off, rfl, r1, _, r2, r3⟩ := HS.out wr kr k hlt
        obtain ⟨g', off', rfl, s1, _, s2, s3⟩ := HT.out wr kr k hlt
        have H0k := Lib.hid (H0.out k hlt)
        have HKn : Hid (p k = q k → ∀ i, i < k + 1 → p i = q i) := Lib.hid fun h i hi => by
          rcases Nat.lt_or_ge i k with h2 | h2
          · exact HK.out i h2
          · obtain rfl : i = k := by omega
            exact h
        clear H0 H1 HS HT HK
        generalize p k = pk at *
        generalize q k = qk at *
        obtain ⟨pk1, pk2⟩ := pk
        obtain ⟨qk1, qk2⟩ := qk
        simp only at r2 r3 s2 s3
        by_cases he : pk1 = qk1 ∧ pk2 = qk2
        · obtain ⟨rfl, rfl⟩ := he
          have HK3 := Lib.hid (HKn.out rfl)
          have g1 : (pk1 == pk1) = true := by rw [beqS, decide_eq_true rfl]
          have g2 : (pk2 == pk2) = true := by rw [beqS, decide_eq_true rfl]
          clear HKn H0k
          go_wp2
          refine wp_region_seq [(0, true), (1, true), (2, true), (3, true), (4, true), (5, true), (6, true), (7, true), (8, true)] (by kernel_rfl) (by kernel_rfl) (fun _ _ d _ _ h => by cases d <;> exact h) ?_
          simp only [List.map_cons, List.map_nil, nth]
          repeat (first | ((with_reducible refine wpSeq_look ?_); go_big_quiet_step (fail); (with_reducible refine wpQuiet_nil ?_)) | ((with_reducible refine wpSeq_effF ?_ ?_); (focus rfl); go_simp) | ((with_reducible refine wpSeq_eff ?_ ?_); (focus rfl); (try dsimp only); go_wp2_with (fail); refine mixQ_mk (by (try show Ex _ _); with_reducible repeat (first | exact ex_refl _ | assumption | refine ex_drewL ?_ | refine ex_appR ?_ _ | refine ex_wx ?_ _ | refine ex_drew ?_ | refine ex_alloc ?_ _)) ?_))
          refine wpSeq_nil ?_
          go_wp2
          refine ⟨⟨k + 1, by omega, by go_num, HK3, (by (try show Ex _ _); with_reducible repeat (first | exact ex_refl _ | assumption | refine ex_drewL ?_ | refine ex_appR ?_ _ | refine ex_wx ?_ _ | refine ex_drew ?_ | refine ex_alloc ?_ _))⟩, by simp [intOf]; omega⟩
        · have hb : ((pk1 == qk1) && (pk2 == qk2)) = false := by
            cases hq : ((pk1 == qk1) && (pk2 == qk2)) with
            | false => rfl
            | true =>
              simp only [beqS, Bool.and_eq_true, decide_eq_true_eq] at hq
              exact absurd hq he
          obtain rfl := H0k.out fun e => he (by cases e; exact ⟨rfl, rfl⟩)
          clear HKn H0k he
          go_wp2
          refine wp_region_seq [(0, true), (1, true), (2, true), (3, true), (4, true), (5, true), (6, true), (7, true), (8, true)] (by kernel_rfl) (by kernel_rfl) (fun _ _ d _ _ h => by cases d <;> exact h) ?_
          simp only [List.map_cons, List.map_nil, nth]
          repeat (first | ((with_reducible refine wpSeq_look ?_); go_big_quiet_step (fail); (with_reducible refine wpQuiet_nil ?_)) | ((with_reducible refine wpSeq_effF ?_ ?_); (focus rfl); go_simp) | ((with_reducible refine wpSeq_eff ?_ ?_); (focus rfl); (try dsimp only); go_wp2_with (fail); refine mixQ_mk (by (try show Ex _ _); with_reducible repeat (first | exact ex_refl _ | assumption | refine ex_drewL ?_ | refine ex_appR ?_ _ | refine ex_wx ?_ _ | refine ex_drew ?_ | refine ex_alloc ?_ _)) ?_))
          refine wpSeq_nil ?_
          go_wp2
          go_ret
          exact post_mk rfl (by (try show Ex _ _); with_reducible repeat (first | exact ex_refl _ | assumption | refine ex_drewL ?_ | refine ex_appR ?_ _ | refine ex_wx ?_ _ | refine ex_drew ?_ | refine ex_alloc ?_ _))
      · obtain rfl : k = n := by omega
        obtain rfl := H1.out HK.out
        clear hlt hk H0 HS HT
        go_wp2
        go_ret
        exact post_mk rfl (by (try show Ex _ _); with_reducible repeat (first | exact ex_refl _ | assumption | refine ex_drewL ?_ | refine ex_appR ?_ _ | refine ex_wx ?_ _ | refine ex_drew ?_ | refine ex_alloc ?_ _))
  · have e1 : decide (l = m) = false := decide_eq_false fun e => hlm (by rw [e])
    rw [e1]
    have e2 : ((l.length : Int) == m.length) = false := beq_eq_false_iff_ne.2 (by omega)
    generalize l.length = n1 at *
    generalize m.length = n2 at *
    clear hs ht e1
    go_enter Tryd.func94, Tryd.ntmps94
    go_wp2
    go_ret
    exact post_mk rfl (by (try show Ex _ _); with_reducible repeat (first | exact ex_refl _ | assumption | refine ex_drewL ?_ | refine ex_appR ?_ _ | refine ex_wx ?_ _ | refine ex_drew ?_ | refine ex_alloc ?_ _))
end Go.Proofs.YtcdocklbpfdmeaaDoor

/- The document's root, path of pairs. -/
set_option linter.unusedSimpArgs false
set_option linter.unusedVariables false
set_option maxRecDepth 20000
namespace Go.Proofs.YtcdocklbpfdmeaaDoor
open Go.RowKit
end Go.Proofs.YtcdocklbpfdmeaaDoor

/- The document's path: what it computes. -/
set_option linter.unusedSimpArgs false
set_option linter.unusedVariables false
set_option maxRecDepth 20000
namespace Go.Proofs.YtcdocklbpfdmeaaDoor
open Go.RowKit
end Go.Proofs.YtcdocklbpfdmeaaDoor

/- The document's span of a range. -/
set_option linter.unusedSimpArgs false
set_option linter.unusedVariables false
set_option maxRecDepth 20000
namespace Go.Proofs.YtcdocklbpfdmeaaDoor
open Go.RowKit
end Go.Proofs.YtcdocklbpfdmeaaDoor

/- Spans that are the same. -/
set_option linter.unusedSimpArgs false
set_option linter.unusedVariables false
set_option maxRecDepth 20000
namespace Go.Proofs.YtcdocklbpfdmeaaDoor
open Go.RowKit
theorem ss_facts {w wr : World} {t f t' f' : Value} {p q p' q' : Value} (k : Ex ((w.alloc (.cells #[t, f, p, q] 27)).alloc (.cells #[t', f', p', q'] 27)) wr) : wr.cell? ⟨w.heap.size, 3, none⟩ = some q ∧ wr.cell? ⟨w.heap.size + 1, 3, none⟩ = some q' ∧ w.heap.size + 1 < wr.heap.size := by
  have k1 : Ex (w.alloc (.cells #[t, f, p, q] 27)) wr := ex_trans (by (try show Ex _ _); with_reducible repeat (first | exact ex_refl _ | assumption | refine ex_drewL ?_ | refine ex_appR ?_ _ | refine ex_wx ?_ _ | refine ex_drew ?_ | refine ex_alloc ?_ _)) k
  have hb := ex_block k1 (heap_alloc_new w _)
  have hb2 := ex_block k (heap_alloc_new _ _)
  have h3 : (w.alloc (.cells #[t, f, p, q] 27)).heap.size = w.heap.size + 1 := by simp [go_sem]
  rw [h3] at hb2
  exact ⟨(block_cell hb rfl).1, (block_cell hb2 rfl).1, (Array.getElem?_eq_some_iff.1 hb2).1⟩
set_option maxHeartbeats 2000000 in
theorem samespan_same (t f : Int) (ps : List Pr) (qs : List Dg) (pa qa pa' qa' : Option Addr) (pc qc pc' qc' : Nat) (w : World) (h1 : ps.length ≤ pc) (h2 : pc ≤ maxLen) (h3 : SlP w pa ps) (h4 : ps.length ≤ pc') (h5 : pc' ≤ maxLen) (h6 : SlP w pa' ps)
    (g1 : qs.length ≤ qc) (g2 : qc ≤ maxLen) (g3 : SlD w qa qs) (g4 : qs.length ≤ qc') (g5 : qc' ≤ maxLen) (g6 : SlD w qa' qs) :
    Calls Tryd.prog 54 #[.agg #[I t, I f, .slice pa ps.length pc, .slice qa qs.length qc], .agg #[I t, I f, .slice pa' ps.length pc', .slice qa' qs.length qc']] w (Post w (.bool true)) := by
  have HSM : Hid (∀ w', Ex w w' → Calls Tryd.prog 94 #[.slice pa ps.length pc, .slice pa' ps.length pc'] w' (Post w' (.bool true))) := Lib.hid fun w' k => by
    have := sameP_any ps ps pa pa' pc pc' w' h1 h2 h4 h5 (h3.ex k) (h6.ex k)
    rwa [decide_eq_true rfl] at this
  have HG3 := Lib.hid g3
  have HG6 := Lib.hid g6
  obtain ⟨n, hn⟩ : ∃ n, qs.length = n := ⟨_, rfl⟩
  have HN := Lib.hid hn
  rw [hn] at g1 g4 ⊢
  generalize ps.length = m at *
  unfold maxLen at g2 g5
  clear h3 h6 g3 g6 hn
  have et : (t == t) = true := beq_self_eq_true t
  have ef : (f == f) = true := beq_self_eq_true f
  have en : ((n : Int) == n) = true := beq_self_eq_true _
  go_enter Tryd.func54, Tryd.ntmps54
  go_wp2_with (go_at_call 94; (with_reducible refine (HSM.out _ (by (try show Ex _ _); with_reducible repeat (first | exact ex_refl _ | assumption | refine ex_drewL ?_ | refine ex_appR ?_ _ | refine ex_wx ?_ _ | refine ex_drew ?_ | refine ex_alloc ?_ _))).mono ?_); rintro e w2 ⟨rfl, X, rfl⟩)
  go_loopw [5] (fun i wr => ∃ k : Nat, k ≤ n ∧ i = I k ∧ Ex ((w.alloc (.cells #[I t, I f, .slice pa m pc, .slice qa n qc] 27)).alloc (.cells #[I t, I f, .slice pa' m pc', .slice qa' n qc'] 27)) wr) (fun i _ => n - (intOf i).toNat)
  case atStart => exact ⟨0, by omega, rfl, (by (try show Ex _ _); with_reducible repeat (first | exact ex_refl _ | assumption | refine ex_drewL ?_ | refine ex_appR ?_ _ | refine ex_wx ?_ _ | refine ex_drew ?_ | refine ex_alloc ?_ _))⟩
  case round =>
    obtain ⟨k, hk, rfl, kr⟩ := hrel
    obtain ⟨s1, s2, s3⟩ := ss_facts kr
    have Kw : Ex w wr := ex_trans (by (try show Ex _ _); with_reducible repeat (first | exact ex_refl _ | assumption | refine ex_drewL ?_ | refine ex_appR ?_ _ | refine ex_wx ?_ _ | refine ex_drew ?_ | refine ex_alloc ?_ _)) kr
    by_cases hlt : k < n
    · have hlt2 : k < qs.length := by have := HN.out; omega
      obtain ⟨g, off, rfl, hg, hc⟩ := (HG3.out.ex Kw).pos (by omega)
      obtain ⟨g', off', rfl, hg', hc'⟩ := (HG6.out.ex Kw).pos (by omega)
      have r1 := hc k _ (List.getElem?_eq_getElem hlt2)
      have r2 := hc' k _ (List.getElem?_eq_getElem hlt2)
      generalize qs[k] = d at r1 r2
      have r3 := eqF_same (dF d) 32
      clear hc hc' hlt2
      go_wp2
      refine wp_region_seq [(0, true), (1, true), (2, true), (3, true), (4, true), (5, true), (6, true), (7, true), (8, true), (9, true), (10, true)] (by kernel_rfl) (by kernel_rfl) (fun _ _ d _ _ h => by cases d <;> exact h) ?_
      simp only [List.map_cons, List.map_nil, nth]
      repeat (first | ((with_reducible refine wpSeq_look ?_); go_big_quiet_step (fail); (with_reducible refine wpQuiet_nil ?_)) | ((with_reducible refine wpSeq_effF ?_ ?_); (focus rfl); go_simp) | ((with_reducible refine wpSeq_eff ?_ ?_); (focus rfl); (try dsimp only); go_wp2_with (fail); refine mixQ_mk (by (try show Ex _ _); with_reducible repeat (first | exact ex_refl _ | assumption | refine ex_drewL ?_ | refine ex_appR ?_ _ | refine ex_wx ?_ _ | refine ex_drew ?_ | refine ex_alloc ?_ _)) ?_))
      refine wpSeq_nil ?_
      go_wp2
      refine ⟨⟨k + 1, by omega, by go_num, (by (try show Ex _ _); with_reducible repeat (first | exact ex_refl _ | assumption | refine ex_drewL ?_ | refine ex_appR ?_ _ | refine ex_wx ?_ _ | refine ex_drew ?_ | refine ex_alloc ?_ _))⟩, by simp [intOf]; omega⟩
    · obtain rfl : k = n := by omega
      clear hlt hk
      go_wp2
      go_ret
      exact post_mk rfl (by (try show Ex _ _); with_reducible repeat (first | exact ex_refl _ | assumption | refine ex_drewL ?_ | refine ex_appR ?_ _ | refine ex_wx ?_ _ | refine ex_drew ?_ | refine ex_alloc ?_ _))
end Go.Proofs.YtcdocklbpfdmeaaDoor
