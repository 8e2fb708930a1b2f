import Derived.Test.YtcdocklbpfdmeaaDoorMSpJ
import Derived.Test.YtcdocklbpfdmeaaDoorMSameP

/- Collide: Spans, Span; are pairs the same? -/
set_option linter.unusedSimpArgs false
set_option linter.unusedVariables false
set_option linter.unnecessarySimpa false
set_option maxRecDepth 20000
namespace Go.Proofs.YtcdocklbpfdmeaaDoor
open Go.RowKit
set_option maxHeartbeats 1000000 in
theorem equalC_any (l m : List Pr) (a b : Option Addr) (c d : Nat) (w : World) (hc : l.length ≤ c) (hcm : c ≤ maxLen) (hd : m.length ≤ d) (hdm : d ≤ maxLen) (hs : SlP w a l) (ht : SlP w b m) :
    Calls Tryd.prog 18 #[.slice a l.length c, .slice b m.length d] w (Post w (.bool (decide (l = m)))) := by
  by_cases hlm : l.length = m.length
  · have HS : Hid (∀ W, Ex w W → ∀ i, i < m.length → ∃ g off, a = some ⟨g, off, none⟩ ∧ g < W.heap.size ∧ cellsN W g (off + i * 2) 2 = some (PC (prAt l i)) ∧ W.cell? ⟨g, off + i * 2, none⟩ = some (.string (prAt l i).1) ∧ W.cell? ⟨g, off + i * 2 + 1, none⟩ = some (.string (prAt l i).2)) := Lib.hid fun W k i hi => (hs.ex k).row (by omega)
    have HT : Hid (∀ W, Ex w W → ∀ i, i < m.length → ∃ g off, b = some ⟨g, off, none⟩ ∧ g < W.heap.size ∧ cellsN W g (off + i * 2) 2 = some (PC (prAt m i)) ∧ W.cell? ⟨g, off + i * 2, none⟩ = some (.string (prAt m i).1) ∧ W.cell? ⟨g, off + i * 2 + 1, none⟩ = some (.string (prAt m i).2)) := Lib.hid fun W k i hi => (ht.ex k).row hi
    have H1 : Hid ((∀ i, i < m.length → prAt l i = prAt m i) → decide (l = m) = true) := Lib.hid fun h => decide_eq_true (pr_ext hlm (by rw [hlm]; exact h))
    have H0 : Hid (∀ i, i < m.length → prAt l i ≠ prAt m i → decide (l = m) = false) := Lib.hid fun i hi h => decide_eq_false fun e => h (by rw [e])
    rw [hlm] at hc ⊢
    generalize decide (l = m) = ov at H0 H1 ⊢
    generalize m.length = n at *
    generalize prAt l = p at HS H0 H1
    generalize prAt m = q at HT H0 H1
    clear hlm hs ht
    unfold maxLen at hcm hdm
    go_enter Tryd.func18, Tryd.ntmps18
    go_wp2
    go_loopw [13] (fun i wr => ∃ k : Nat, k ≤ n ∧ i = I k ∧ Hid (∀ i, i < k → p i = q i) ∧ Ex w wr) (fun i _ => n - (intOf i).toNat)
    case atStart => exact ⟨0, by omega, rfl, Lib.hid (fun i hi => absurd hi (by omega)), (by (try show Ex _ _); with_reducible repeat (first | exact ex_refl _ | assumption | refine ex_drewL ?_ | refine ex_appR ?_ _ | refine ex_wx ?_ _ | refine ex_drew ?_ | refine ex_alloc ?_ _))⟩
    case round =>
      obtain ⟨k, hk, rfl, HK, kr⟩ := hrel
      by_cases hlt : k < n
      · obtain ⟨g, off, rfl, r1, rc1, r2, r3⟩ := HS.out wr kr k hlt
        obtain ⟨g', off', rfl, s1, rc2, s2, s3⟩ := HT.out wr kr k hlt
        have H0k := Lib.hid (H0.out k hlt)
        have HKn : Hid (p k = q k → ∀ i, i < k + 1 → p i = q i) := Lib.hid fun h i hi => by
          rcases Nat.lt_or_ge i k with h2 | h2
          · exact HK.out i h2
          · obtain rfl : i = k := by omega
            exact h
        clear H0 H1 HS HT HK
        generalize p k = pk at *
        generalize q k = qk at *
        obtain ⟨pk1, pk2⟩ := pk
        obtain ⟨qk1, qk2⟩ := qk
        simp only at r2 r3 s2 s3
        unfold PC at rc1 rc2
        dsimp only at rc1 rc2
        by_cases he : pk1 = qk1 ∧ pk2 = qk2
        · obtain ⟨rfl, rfl⟩ := he
          have HK3 := Lib.hid (HKn.out rfl)
          have g1 : (pk1 == pk1) = true := by rw [beqS, decide_eq_true rfl]
          have g2 : (pk2 == pk2) = true := by rw [beqS, decide_eq_true rfl]
          clear HKn H0k
          go_wp2
          refine wp_region_seq [(0, true), (1, true), (2, true), (3, true), (4, true), (5, true), (6, true), (7, true), (8, true)] (by kernel_rfl) (by kernel_rfl) (fun _ _ d _ _ h => by cases d <;> exact h) ?_
          simp only [List.map_cons, List.map_nil, nth]
          repeat (first | ((with_reducible refine wpSeq_look ?_); go_big_quiet_step (fail); (with_reducible refine wpQuiet_nil ?_)) | ((with_reducible refine wpSeq_effF ?_ ?_); (focus rfl); go_simp) | ((with_reducible refine wpSeq_eff ?_ ?_); (focus rfl); (try dsimp only); go_wp2_with (fail); refine mixQ_mk (by (try show Ex _ _); with_reducible repeat (first | exact ex_refl _ | assumption | refine ex_drewL ?_ | refine ex_appR ?_ _ | refine ex_wx ?_ _ | refine ex_drew ?_ | refine ex_alloc ?_ _)) ?_))
          refine wpSeq_nil ?_
          go_wp2
          refine ⟨⟨k + 1, by omega, by go_num, HK3, (by (try show Ex _ _); with_reducible repeat (first | exact ex_refl _ | assumption | refine ex_drewL ?_ | refine ex_appR ?_ _ | refine ex_wx ?_ _ | refine ex_drew ?_ | refine ex_alloc ?_ _))⟩, by simp [intOf]; omega⟩
        · have hb : ((pk1 == qk1) && (pk2 == qk2)) = false := by
            cases hq : ((pk1 == qk1) && (pk2 == qk2)) with
            | false => rfl
            | true =>
              simp only [beqS, Bool.and_eq_true, decide_eq_true_eq] at hq
              exact absurd hq he
          obtain rfl := H0k.out fun e => he (by cases e; exact ⟨rfl, rfl⟩)
          clear HKn H0k he
          go_wp2
          refine wp_region_seq [(0, true), (1, true), (2, true), (3, true), (4, true), (5, true), (6, true), (7, true), (8, true)] (by kernel_rfl) (by kernel_rfl) (fun _ _ d _ _ h => by cases d <;> exact h) ?_
          simp only [List.map_cons, List.map_nil, nth]
          repeat (first | ((with_reducible refine wpSeq_look ?_); go_big_quiet_step (fail); (with_reducible refine wpQuiet_nil ?_)) | ((with_reducible refine wpSeq_effF ?_ ?_); (focus rfl); go_simp) | ((with_reducible refine wpSeq_eff ?_ ?_); (focus rfl); (try dsimp only); go_wp2_with (fail); refine mixQ_mk (by (try show Ex _ _); with_reducible repeat (first | exact ex_refl _ | assumption | refine ex_drewL ?_ | refine ex_appR ?_ _ | refine ex_wx ?_ _ | refine ex_drew ?_ | refine ex_alloc ?_ _)) ?_))
          refine wpSeq_nil ?_
          go_wp2
          go_ret
          exact post_mk rfl (by (try show Ex _ _); with_reducible repeat (first | exact ex_refl _ | assumption | refine ex_drewL ?_ | refine ex_appR ?_ _ | refine ex_wx ?_ _ | refine ex_drew ?_ | refine ex_alloc ?_ _))
      · obtain rfl : k = n := by omega
        obtain rfl := H1.out HK.out
        clear hlt hk H0 HS HT
        go_wp2
        go_ret
        exact post_mk rfl (by (try show Ex _ _); with_reducible repeat (first | exact ex_refl _ | assumption | refine ex_drewL ?_ | refine ex_appR ?_ _ | refine ex_wx ?_ _ | refine ex_drew ?_ | refine ex_alloc ?_ _))
  · have e1 : decide (l = m) = false := decide_eq_false fun e => hlm (by rw [e])
    rw [e1]
    have e2 : ((l.length : Int) == m.length) = false := beq_eq_false_iff_ne.2 (by omega)
    generalize l.length = n1 at *
    generalize m.length = n2 at *
    clear hs ht e1
    go_enter Tryd.func18, Tryd.ntmps18
    go_wp2
    go_ret
    exact post_mk rfl (by (try show Ex _ _); with_reducible repeat (first | exact ex_refl _ | assumption | refine ex_drewL ?_ | refine ex_appR ?_ _ | refine ex_wx ?_ _ | refine ex_drew ?_ | refine ex_alloc ?_ _))
set_option maxHeartbeats 1000000 in
theorem sameC_any (l m : List Pr) (a b : Option Addr) (c d : Nat) (w : World) (hc : l.length ≤ c) (hcm : c ≤ maxLen) (hd : m.length ≤ d) (hdm : d ≤ maxLen) (hs : SlP w a l) (ht : SlP w b m) :
    Calls Tryd.prog 53 #[.slice a l.length c, .slice b m.length d] w (Post w (.bool (decide (l = m)))) := by
  by_cases hlm : l.length = m.length
  · have HS : Hid (∀ W, Ex w W → ∀ i, i < m.length → ∃ g off, a = some ⟨g, off, none⟩ ∧ g < W.heap.size ∧ cellsN W g (off + i * 2) 2 = some (PC (prAt l i)) ∧ W.cell? ⟨g, off + i * 2, none⟩ = some (.string (prAt l i).1) ∧ W.cell? ⟨g, off + i * 2 + 1, none⟩ = some (.string (prAt l i).2)) := Lib.hid fun W k i hi => (hs.ex k).row (by omega)
    have HT : Hid (∀ W, Ex w W → ∀ i, i < m.length → ∃ g off, b = some ⟨g, off, none⟩ ∧ g < W.heap.size ∧ cellsN W g (off + i * 2) 2 = some (PC (prAt m i)) ∧ W.cell? ⟨g, off + i * 2, none⟩ = some (.string (prAt m i).1) ∧ W.cell? ⟨g, off + i * 2 + 1, none⟩ = some (.string (prAt m i).2)) := Lib.hid fun W k i hi => (ht.ex k).row hi
    have H1 : Hid ((∀ i, i < m.length → prAt l i = prAt m i) → decide (l = m) = true) := Lib.hid fun h => decide_eq_true (pr_ext hlm (by rw [hlm]; exact h))
    have H0 : Hid (∀ i, i < m.length → prAt l i ≠ prAt m i → decide (l = m) = false) := Lib.hid fun i hi h => decide_eq_false fun e => h (by rw [e])
    rw [hlm] at hc ⊢
    generalize decide (l = m) = ov at H0 H1 ⊢
    generalize m.length = n at *
    generalize prAt l = p at HS H0 H1
    generalize prAt m = q at HT H0 H1
    clear hlm hs ht
    unfold maxLen at hcm hdm
    go_enter Tryd.func53, Tryd.ntmps53
    go_wp2
    go_loopw [13] (fun i wr => ∃ k : Nat, k ≤ n ∧ i = I k ∧ Hid (∀ i, i < k → p i = q i) ∧ Ex w wr) (fun i _ => n - (intOf i).toNat)
    case atStart => exact ⟨0, by omega, rfl, Lib.hid (fun i hi => absurd hi (by omega)), (by (try show Ex _ _); with_reducible repeat (first | exact ex_refl _ | assumption | refine ex_drewL ?_ | refine ex_appR ?_ _ | refine ex_wx ?_ _ | refine ex_drew ?_ | refine ex_alloc ?_ _))⟩
    case round =>
      obtain ⟨k, hk, rfl, HK, kr⟩ := hrel
      by_cases hlt : k < n
      · obtain ⟨g, off, rfl, r1, rc1, r2, r3⟩ := HS.out wr kr k hlt
        obtain ⟨g', off', rfl, s1, rc2, s2, s3⟩ := HT.out wr kr k hlt
        have H0k := Lib.hid (H0.out k hlt)
        have HKn : Hid (p k = q k → ∀ i, i < k + 1 → p i = q i) := Lib.hid fun h i hi => by
          rcases Nat.lt_or_ge i k with h2 | h2
          · exact HK.out i h2
          · obtain rfl : i = k := by omega
            exact h
        clear H0 H1 HS HT HK
        generalize p k = pk at *
        generalize q k = qk at *
        obtain ⟨pk1, pk2⟩ := pk
        obtain ⟨qk1, qk2⟩ := qk
        simp only at r2 r3 s2 s3
        unfold PC at rc1 rc2
        dsimp only at rc1 rc2
        by_cases he : pk1 = qk1 ∧ pk2 = qk2
        · obtain ⟨rfl, rfl⟩ := he
          have HK3 := Lib.hid (HKn.out rfl)
          have g1 : (pk1 == pk1) = true := by rw [beqS, decide_eq_true rfl]
          have g2 : (pk2 == pk2) = true := by rw [beqS, decide_eq_true rfl]
          clear HKn H0k
          go_wp2
          refine wp_region_seq [(0, true), (1, true), (2, true), (3, true), (4, true), (5, true), (6, true), (7, true), (8, true)] (by kernel_rfl) (by kernel_rfl) (fun _ _ d _ _ h => by cases d <;> exact h) ?_
          simp only [List.map_cons, List.map_nil, nth]
          repeat (first | ((with_reducible refine wpSeq_look ?_); go_big_quiet_step (fail); (with_reducible refine wpQuiet_nil ?_)) | ((with_reducible refine wpSeq_effF ?_ ?_); (focus rfl); go_simp) | ((with_reducible refine wpSeq_eff ?_ ?_); (focus rfl); (try dsimp only); go_wp2_with (fail); refine mixQ_mk (by (try show Ex _ _); with_reducible repeat (first | exact ex_refl _ | assumption | refine ex_drewL ?_ | refine ex_appR ?_ _ | refine ex_wx ?_ _ | refine ex_drew ?_ | refine ex_alloc ?_ _)) ?_))
          refine wpSeq_nil ?_
          go_wp2
          refine ⟨⟨k + 1, by omega, by go_num, HK3, (by (try show Ex _ _); with_reducible repeat (first | exact ex_refl _ | assumption | refine ex_drewL ?_ | refine ex_appR ?_ _ | refine ex_wx ?_ _ | refine ex_drew ?_ | refine ex_alloc ?_ _))⟩, by simp [intOf]; omega⟩
        · have hb : ((pk1 == qk1) && (pk2 == qk2)) = false := by
            cases hq : ((pk1 == qk1) && (pk2 == qk2)) with
            | false => rfl
            | true =>
              simp only [beqS, Bool.and_eq_true, decide_eq_true_eq] at hq
              exact absurd hq he
          obtain rfl := H0k.out fun e => he (by cases e; exact ⟨rfl, rfl⟩)
          clear HKn H0k he
          go_wp2
          refine wp_region_seq [(0, true), (1, true), (2, true), (3, true), (4, true), (5, true), (6, true), (7, true), (8, true)] (by kernel_rfl) (by kernel_rfl) (fun _ _ d _ _ h => by cases d <;> exact h) ?_
          simp only [List.map_cons, List.map_nil, nth]
          repeat (first | ((with_reducible refine wpSeq_look ?_); go_big_quiet_step (fail); (with_reducible refine wpQuiet_nil ?_)) | ((with_reducible refine wpSeq_effF ?_ ?_); (focus rfl); go_simp) | ((with_reducible refine wpSeq_eff ?_ ?_); (focus rfl); (try dsimp only); go_wp2_with (fail); refine mixQ_mk (by (try show Ex _ _); with_reducible repeat (first | exact ex_refl _ | assumption | refine ex_drewL ?_ | refine ex_appR ?_ _ | refine ex_wx ?_ _ | refine ex_drew ?_ | refine ex_alloc ?_ _)) ?_))
          refine wpSeq_nil ?_
          go_wp2
          go_ret
          exact post_mk rfl (by (try show Ex _ _); with_reducible repeat (first | exact ex_refl _ | assumption | refine ex_drewL ?_ | refine ex_appR ?_ _ | refine ex_wx ?_ _ | refine ex_drew ?_ | refine ex_alloc ?_ _))
      · obtain rfl : k = n := by omega
        obtain rfl := H1.out HK.out
        clear hlt hk H0 HS HT
        go_wp2
        go_ret
        exact post_mk rfl (by (try show Ex _ _); with_reducible repeat (first | exact ex_refl _ | assumption | refine ex_drewL ?_ | refine ex_appR ?_ _ | refine ex_wx ?_ _ | refine ex_drew ?_ | refine ex_alloc ?_ _))
  · have e1 : decide (l = m) = false := decide_eq_false fun e => hlm (by rw [e])
    rw [e1]
    have e2 : ((l.length : Int) == m.length) = false := beq_eq_false_iff_ne.2 (by omega)
    generalize l.length = n1 at *
    generalize m.length = n2 at *
    clear hs ht e1
    go_enter Tryd.func53, Tryd.ntmps53
    go_wp2
    go_ret
    exact post_mk rfl (by (try show Ex _ _); with_reducible repeat (first | exact ex_refl _ | assumption | refine ex_drewL ?_ | refine ex_appR ?_ _ | refine ex_wx ?_ _ | refine ex_drew ?_ | refine ex_alloc ?_ _))
theorem spans_rest (W : Int) (l : List Pr) (r : Rg) (T F : Int) (ps : List Pr) (qs : List Dg) : (spansC W l r T F ps qs).1 = true → l.length ≤ 300 ∧ ps.length ≤ 300 := fun h => by
  obtain ⟨h1, h2, _⟩ := spans_true h
  obtain ⟨⟨_, _, _, _, _, h3⟩, _⟩ := form_ok h2
  have := right_len2 h1
  have := right_len2 h3
  omega
def PostSs (w : World) (o : Option (List Pr)) (e : Ending) (w' : World) : Prop := ∃ v, e = .returned (.tuple #[v, .bool o.isSome]) ∧ OwnP w' w.heap.size v (o.getD []) ∧ ∃ X, w' = wx w X
/-- The pairs that a span tells. -/
def spansP (W : Int) (l : List Pr) (r : Rg) (T F : Int) (ps : List Pr) (qs : List Dg) : Option (List Pr) := if (spansC W l r T F ps qs).1 then some (amongL ps r) else none
set_option maxHeartbeats 1000000 in
theorem Spans_any {w0 : World} (G : Glob w0) (W : Int) (l : List Pr) (la : Option Addr) (lc : Nat) (r : Rg) (T F : Int) (ps : List Pr) (pa : Option Addr) (pc : Nat) (qs : List Dg) (qa : Option Addr) (qc : Nat) (w : World)
    (hlc : l.length ≤ lc) (hlm : lc ≤ maxLen) (hls : SlP w la l) (hpc : ps.length ≤ pc) (hpm : pc ≤ maxLen) (hPs : SlP w pa ps) (hqc : qs.length ≤ qc) (hqm : qc ≤ maxLen) (hQs : SlD w qa qs) (k0 : Ex w0 w) :
    Calls Tryd.prog 14 #[I W, .slice la l.length lc, .agg (RC r), .agg #[I T, I F, .slice pa ps.length pc, .slice qa qs.length qc]] w (PostSs w (spansP W l r T F ps qs)) := by
  have HS := Lib.hid fun w' (k : Ex w w') => spans_any G W l la lc r T F ps pa pc qs qa qc w' hlc hlm (hls.ex k) hpc hpm (hPs.ex k) hqc hqm (hQs.ex k) (ex_trans k0 k)
  have hrest := spans_rest W l r T F ps qs
  unfold spansP
  generalize spansC W l r T F ps qs = o at HS hrest ⊢
  obtain ⟨b, c⟩ := o
  have HA : Hid (b = true → ∀ w', Ex w w' → Calls Tryd.prog 58 #[.slice pa ps.length pc, .agg (RC r)] w' (PostAm w' (amongL ps r))) := Lib.hid fun h w' k => among_any r ps pa pc w' (hrest h).2 hpc hpm (hPs.ex k)
  generalize amongL ps r = am at HA ⊢
  generalize l.length = n at *
  generalize ps.length = pn at *
  generalize qs.length = qn at *
  clear hls hPs hQs hrest
  unfold maxLen at hlm hpm hqm
  obtain ⟨lo, hi, op⟩ := r
  unfold RC at HS HA ⊢
  dsimp only at HS HA ⊢
  cases b with
  | false =>
    go_enter Tryd.func14, Tryd.ntmps14
    go_wp2_with (go_at_call 57; (with_reducible refine (HS.out _ (by (try show Ex _ _); with_reducible repeat (first | exact ex_refl _ | assumption | refine ex_drewL ?_ | refine ex_appR ?_ _ | refine ex_wx ?_ _ | refine ex_drew ?_ | refine ex_alloc ?_ _))).mono ?_); rintro e w2 ⟨pv, rfl, ⟨X, rfl⟩, hc2⟩; dsimp only; replace hc2 := Lib.hid hc2)
    go_ret2
    exact ⟨_, rfl, ownp_nil _ _, (by (try show Ex _ _); with_reducible repeat (first | exact ex_refl _ | assumption | refine ex_drewL ?_ | refine ex_appR ?_ _ | refine ex_wx ?_ _ | refine ex_drew ?_ | refine ex_alloc ?_ _))⟩
  | true =>
    have HA2 := Lib.hid (HA.out rfl)
    clear HA
    go_enter Tryd.func14, Tryd.ntmps14
    go_wp2_with (first | (go_at_call 57; (with_reducible refine (HS.out _ (by (try show Ex _ _); with_reducible repeat (first | exact ex_refl _ | assumption | refine ex_drewL ?_ | refine ex_appR ?_ _ | refine ex_wx ?_ _ | refine ex_drew ?_ | refine ex_alloc ?_ _))).mono ?_); rintro e w2 ⟨pv, rfl, ⟨X, rfl⟩, hc2⟩; dsimp only; replace hc2 := Lib.hid hc2) | (go_at_call 58; (with_reducible refine (HA2.out _ (by (try show Ex _ _); with_reducible repeat (first | exact ex_refl _ | assumption | refine ex_drewL ?_ | refine ex_appR ?_ _ | refine ex_wx ?_ _ | refine ex_drew ?_ | refine ex_alloc ?_ _))).mono ?_); rintro e w2 ⟨v2, rfl, hv2, X2, rfl⟩; (try simp only [wx_wx, wx_drew] at hv2); replace hv2 := Lib.hid hv2))
    go_ret2
    exact ⟨_, rfl, owns_le hv2.out (by simp [go_sem] <;> omega), (by (try show Ex _ _); with_reducible repeat (first | exact ex_refl _ | assumption | refine ex_drewL ?_ | refine ex_appR ?_ _ | refine ex_wx ?_ _ | refine ex_drew ?_ | refine ex_alloc ?_ _))⟩
end Go.Proofs.YtcdocklbpfdmeaaDoor
