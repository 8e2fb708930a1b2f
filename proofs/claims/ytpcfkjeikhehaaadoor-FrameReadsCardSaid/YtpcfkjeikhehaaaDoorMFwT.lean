import Derived.Test.YtpcfkjeikhehaaaDoorMFwB

/- The document's Same. -/
set_option linter.unusedSimpArgs false
set_option linter.unusedVariables false
set_option maxRecDepth 20000
namespace Go.Proofs.YtpcfkjeikhehaaaDoor
open Go.RowKit
theorem mb_iff (l m : List Int) : l = m ↔ l.length = m.length ∧ ∀ i, i < l.length → inAt l i = inAt m i :=
  ⟨fun h => by subst h; exact ⟨rfl, fun _ _ => rfl⟩, fun h => inAt_ext h.1 h.2⟩
theorem same_iff2 (x y : Ms) : sameM x y = true ↔ ((x.kd = y.kd ∧ x.fr = y.fr ∧ x.to = y.to ∧ x.tm = y.tm ∧ x.pi = y.pi ∧ x.pt = y.pt ∧ x.cm = y.cm ∧ x.ok = y.ok ∧ x.mb.length = y.mb.length) ∧ (∀ i, i < x.mb.length → inAt x.mb i = inAt y.mb i) ∧ decide (x.es = y.es) = true ∧ decide (x.da = y.da) = true) := by
  rw [sameM_iff]
  constructor
  · rintro rfl; simp
  · rintro ⟨⟨h1, h2, h3, h4, h5, h6, h7, h8, h9⟩, h10, h11, h12⟩
    have := (mb_iff x.mb y.mb).2 ⟨h9, h10⟩
    have h11 := of_decide_eq_true h11
    have h12 := of_decide_eq_true h12
    cases x; cases y
    simp_all
set_option maxHeartbeats 4000000 in
theorem refsame_any (x y : Ms) (v u : Value) (w : World) (hx : MsV w v x) (hy : MsV w u y) :
    Calls Tryd.prog 21 #[v, u] w (Post w (.bool (sameM x y))) := by
  have HI := same_iff2 x y
  obtain ⟨ev, mv, dv, rfl, x1, x2, x3⟩ := hx.out
  obtain ⟨eu, mu, du, rfl, y1, y2, y3⟩ := hy.out
  have HE := Lib.hid (fun w' (k : Ex w w') => sameE_any x.es y.es ev eu w' (x1.ex k) (y1.ex k))
  have HD := Lib.hid (fun w' (k : Ex w w') => sameL_any x.da y.da dv du w' (x3.ex k) (y3.ex k))
  obtain ⟨a1, c1, rfl, _⟩ := id x1.out
  obtain ⟨a2, c2, rfl, xm1, xm2, xm3, xm⟩ := id x2.out
  obtain ⟨a3, c3, rfl, _⟩ := id x3.out
  obtain ⟨b1, d1, rfl, _⟩ := id y1.out
  obtain ⟨b2, d2, rfl, ym1, ym2, ym3, ym⟩ := id y2.out
  obtain ⟨b3, d3, rfl, _⟩ := id y3.out
  have HM : Hid (∀ W, Ex w W → ∀ i, i < x.mb.length → ∃ g off, a2 = some ⟨g, off, none⟩ ∧ g < W.heap.size ∧ W.cell? ⟨g, off + i, none⟩ = some (I (inAt x.mb i))) := Lib.hid fun W k i hi => (xm.ex k).row hi
  have HM2 : Hid (∀ W, Ex w W → ∀ i, i < y.mb.length → ∃ g off, b2 = some ⟨g, off, none⟩ ∧ g < W.heap.size ∧ W.cell? ⟨g, off + i, none⟩ = some (I (inAt y.mb i))) := Lib.hid fun W k i hi => (ym.ex k).row hi
  have HN0 := fun h => Bool.eq_false_iff.2 (mt HI.1 h)
  have HN := Lib.hid HN0
  clear HN0
  have HY := Lib.hid HI.2
  clear HI x1 x2 x3 y1 y2 y3 hx hy xm ym
  generalize sameM x y = ov at *
  generalize decide (x.es = y.es) = be at *
  generalize decide (x.da = y.da) = bd at *
  generalize inAt x.mb = P1 at *
  generalize inAt y.mb = P2 at *
  generalize x.es.length = n1 at *
  generalize x.mb.length = n2 at *
  generalize x.da.length = n3 at *
  generalize y.es.length = m1 at *
  generalize y.mb.length = m2 at *
  generalize y.da.length = m3 at *
  obtain ⟨kd, fr, to, tm, pi, pt, es, cm, ok, mb, da⟩ := x
  obtain ⟨kd', fr', to', tm', pi', pt', es', cm', ok', mb', da'⟩ := y
  simp only at *
  by_cases hC : kd = kd' ∧ fr = fr' ∧ to = to' ∧ tm = tm' ∧ pi = pi' ∧ pt = pt' ∧ cm = cm' ∧ ok = ok' ∧ n2 = m2
  · obtain ⟨rfl, rfl, rfl, rfl, rfl, rfl, rfl, rfl, rfl⟩ := hC
    have HN2 : Hid (¬ ((∀ i, i < n2 → P1 i = P2 i) ∧ be = true ∧ bd = true) → ov = false) := Lib.hid fun h => HN.out fun hc => h hc.2
    have HY2 : Hid ((∀ i, i < n2 → P1 i = P2 i) ∧ be = true ∧ bd = true → ov = true) := Lib.hid fun h => HY.out ⟨⟨rfl, rfl, rfl, rfl, rfl, rfl, rfl, rfl, rfl⟩, h⟩
    clear HN HY
    unfold maxLen at xm2 ym2
    obtain ⟨A, hA⟩ : ∃ A, (w.alloc (.cells #[I kd, I fr, I to, L tm, L pi, L pt, .slice a1 n1 c1, L cm, .bool ok, .slice a2 n2 c2, .slice a3 n3 c3] 41)).alloc (.cells #[I kd, I fr, I to, L tm, L pi, L pt, .slice b1 m1 d1, L cm, .bool ok, .slice b2 n2 d2, .slice b3 m3 d3] 41) = A := ⟨_, rfl⟩
    have hs0 : w.heap.size + 2 = A.heap.size := by rw [← hA]; simp [go_sem]
    have hq0 : A.heap[w.heap.size]? = some (.cells #[I kd, I fr, I to, L tm, L pi, L pt, .slice a1 n1 c1, L cm, .bool ok, .slice a2 n2 c2, .slice a3 n3 c3] 41 (0, 0)) := by rw [← hA]; exact (ex_of_alloc _ _ _ (by simp [go_sem])).trans (heap_alloc_new w _)
    have hq1 : A.heap[w.heap.size + 1]? = some (.cells #[I kd, I fr, I to, L tm, L pi, L pt, .slice b1 m1 d1, L cm, .bool ok, .slice b2 n2 d2, .slice b3 m3 d3] 41 (0, 0)) := by rw [← hA]; exact alloc_at (by simp [go_sem])
    have hk0 : Ex w A := by rw [← hA]; exact ex_alloc (ex_alloc (ex_refl _) _) _
    replace hA := Lib.hid hA
    replace hq0 := Lib.hid hq0
    replace hq1 := Lib.hid hq1
    go_enter Tryd.func21, Tryd.ntmps21
    go_wp2
    rw [hA.out]
    obtain ⟨x6, _⟩ := block_cell (o := 6) hq0.out rfl
    obtain ⟨x9, _⟩ := block_cell (o := 9) hq0.out rfl
    obtain ⟨x10, _⟩ := block_cell (o := 10) hq0.out rfl
    obtain ⟨y6, _⟩ := block_cell (o := 6) hq1.out rfl
    obtain ⟨y9, _⟩ := block_cell (o := 9) hq1.out rfl
    obtain ⟨y10, _⟩ := block_cell (o := 10) hq1.out rfl
    simp only [List.getElem_toArray, List.getElem_cons_zero, List.getElem_cons_succ] at x6 x9 x10 y6 y9 y10
    clear hA hq0 hq1
    go_loopw [68] (fun i wr => ∃ k : Nat, k ≤ n2 ∧ i = I k ∧ Hid (∀ i, i < k → P1 i = P2 i) ∧ Ex A wr) (fun i _ => n2 - (intOf i).toNat)
    case atStart => exact ⟨0, by omega, rfl, Lib.hid (fun i h => absurd h (by omega)), (by (try show Ex _ _); repeat (first | (with_reducible exact ex_refl _) | (with_reducible assumption) | (with_reducible refine ex_drewL ?_) | (with_reducible refine ex_appR ?_ _) | (with_reducible refine ex_wx ?_ _) | (with_reducible refine ex_drew ?_) | (with_reducible refine ex_alloc ?_ _)))⟩
    case round =>
      obtain ⟨q, hq, rfl, HQ, Y9, rfl⟩ := hrel
      by_cases hlt : q < n2
      · obtain ⟨g, off, rfl, hg, hcl⟩ := HM.out _ hk0 q hlt
        obtain ⟨g', off', rfl, hg', hcl'⟩ := HM2.out _ hk0 q hlt
        have hNb : Hid (¬ (P1 q = P2 q) → ov = false) := Lib.hid fun h => HN2.out fun hC => h (hC.1 q hlt)
        have hBe : Hid (∀ i, i < q + 1 → i < q ∨ i = q) := Lib.hid fun i h => by omega
        clear HM HM2
        by_cases he : P1 q = P2 q
        · have he2 := Lib.hid he
          rw [he] at hcl
          clear he
          go_wp2
          refine wp_region_seq [(0, true), (1, true), (2, true), (3, true), (4, true), (5, true), (6, true), (7, true), (8, true), (9, true), (10, true), (11, true), (12, true)] (by kernel_rfl) (by kernel_rfl) (fun _ _ d _ _ h => by cases d <;> exact h) ?_
          simp only [List.map_cons, List.map_nil, nth]
          repeat (first | ((with_reducible refine wpSeq_look ?_); go_big_quiet_step (fail); (with_reducible refine wpQuiet_nil ?_)) | ((with_reducible refine wpSeq_effF ?_ ?_); (focus rfl); go_simp) | ((with_reducible refine wpSeq_eff ?_ ?_); (focus rfl); (try dsimp only); go_wp2_with (fail); refine mixQ_mk (by (try show Ex _ _); repeat (first | (with_reducible exact ex_refl _) | (with_reducible assumption) | (with_reducible refine ex_drewL ?_) | (with_reducible refine ex_appR ?_ _) | (with_reducible refine ex_wx ?_ _) | (with_reducible refine ex_drew ?_) | (with_reducible refine ex_alloc ?_ _))) ?_))
          refine wpSeq_nil ?_
          go_wp2
          refine ⟨⟨q + 1, by omega, by go_num, Lib.hid fun i hi => ?_, (by (try show Ex _ _); repeat (first | (with_reducible exact ex_refl _) | (with_reducible assumption) | (with_reducible refine ex_drewL ?_) | (with_reducible refine ex_appR ?_ _) | (with_reducible refine ex_wx ?_ _) | (with_reducible refine ex_drew ?_) | (with_reducible refine ex_alloc ?_ _)))⟩, by simp [intOf]; omega⟩
          rcases hBe.out i hi with h9 | rfl
          · exact HQ.out i h9
          · exact he2.out
        · have ho : ov = false := hNb.out he
          subst ho
          have he1 : (P1 q == P2 q) = false := beq_eq_false_iff_ne.2 he
          go_wp2
          refine wp_region_seq [(0, true), (1, true), (2, true), (3, true), (4, true), (5, true), (6, true), (7, true), (8, true), (9, true), (10, true), (11, true), (12, true)] (by kernel_rfl) (by kernel_rfl) (fun _ _ d _ _ h => by cases d <;> exact h) ?_
          simp only [List.map_cons, List.map_nil, nth]
          repeat (first | ((with_reducible refine wpSeq_look ?_); go_big_quiet_step (fail); (with_reducible refine wpQuiet_nil ?_)) | ((with_reducible refine wpSeq_effF ?_ ?_); (focus rfl); go_simp) | ((with_reducible refine wpSeq_eff ?_ ?_); (focus rfl); (try dsimp only); go_wp2_with (fail); refine mixQ_mk (by (try show Ex _ _); repeat (first | (with_reducible exact ex_refl _) | (with_reducible assumption) | (with_reducible refine ex_drewL ?_) | (with_reducible refine ex_appR ?_ _) | (with_reducible refine ex_wx ?_ _) | (with_reducible refine ex_drew ?_) | (with_reducible refine ex_alloc ?_ _))) ?_))
          refine wpSeq_nil ?_
          go_wp2
          go_ret
          exact post_mk rfl (ex_trans hk0 (by (try show Ex _ _); repeat (first | (with_reducible exact ex_refl _) | (with_reducible assumption) | (with_reducible refine ex_drewL ?_) | (with_reducible refine ex_appR ?_ _) | (with_reducible refine ex_wx ?_ _) | (with_reducible refine ex_drew ?_) | (with_reducible refine ex_alloc ?_ _))))
      · obtain rfl : q = n2 := by omega
        have hNe : Hid (¬ (be = true ∧ bd = true) → ov = false) := Lib.hid fun h => HN2.out fun hC => h hC.2
        have hYe : Hid (be = true ∧ bd = true → ov = true) := Lib.hid fun h => HY2.out ⟨HQ.out, h⟩
        clear HM HM2 hlt hq HN2 HY2
        cases be with
        | false =>
          have ho : ov = false := hNe.out (fun h => by cases h.1)
          subst ho
          go_wp2_with (first | (go_at_call 42; (with_reducible refine (HE.out _ (ex_trans hk0 (by (try show Ex _ _); repeat (first | (with_reducible exact ex_refl _) | (with_reducible assumption) | (with_reducible refine ex_drewL ?_) | (with_reducible refine ex_appR ?_ _) | (with_reducible refine ex_wx ?_ _) | (with_reducible refine ex_drew ?_) | (with_reducible refine ex_alloc ?_ _))))).mono ?_); rintro e w2 ⟨rfl, X, rfl⟩))
          go_ret
          exact post_mk rfl (ex_trans hk0 (by (try show Ex _ _); repeat (first | (with_reducible exact ex_refl _) | (with_reducible assumption) | (with_reducible refine ex_drewL ?_) | (with_reducible refine ex_appR ?_ _) | (with_reducible refine ex_wx ?_ _) | (with_reducible refine ex_drew ?_) | (with_reducible refine ex_alloc ?_ _))))
        | true =>
          have ho : ov = bd := by
            cases bd with
            | true => exact hYe.out ⟨rfl, rfl⟩
            | false => exact hNe.out (fun h => by cases h.2)
          subst ho
          go_wp2_with (first | (go_at_call 42; (with_reducible refine (HE.out _ (ex_trans hk0 (by (try show Ex _ _); repeat (first | (with_reducible exact ex_refl _) | (with_reducible assumption) | (with_reducible refine ex_drewL ?_) | (with_reducible refine ex_appR ?_ _) | (with_reducible refine ex_wx ?_ _) | (with_reducible refine ex_drew ?_) | (with_reducible refine ex_alloc ?_ _))))).mono ?_); rintro e w2 ⟨rfl, X, rfl⟩) | (go_at_call 10; (with_reducible refine (HD.out _ (ex_trans hk0 (by (try show Ex _ _); repeat (first | (with_reducible exact ex_refl _) | (with_reducible assumption) | (with_reducible refine ex_drewL ?_) | (with_reducible refine ex_appR ?_ _) | (with_reducible refine ex_wx ?_ _) | (with_reducible refine ex_drew ?_) | (with_reducible refine ex_alloc ?_ _))))).mono ?_); rintro e w2 ⟨rfl, X, rfl⟩))
          go_ret
          exact post_mk rfl (ex_trans hk0 (by (try show Ex _ _); repeat (first | (with_reducible exact ex_refl _) | (with_reducible assumption) | (with_reducible refine ex_drewL ?_) | (with_reducible refine ex_appR ?_ _) | (with_reducible refine ex_wx ?_ _) | (with_reducible refine ex_drew ?_) | (with_reducible refine ex_alloc ?_ _))))
  · have ho : ov = false := HN.out fun h => hC h.1
    subst ho
    clear HN HY HE HD HM HM2
    have hb : (((n2 : Nat) : Int) != m2) = !(decide (n2 = m2)) := by
      by_cases h : n2 = m2
      · subst h; simp
      · rw [decide_eq_false h]
        have : ((n2 : Int) == m2) = false := beq_eq_false_iff_ne.2 (by omega)
        simp [bne, this]
    by_cases hpi : pi = pi'
    · subst hpi
      by_cases hpt : pt = pt'
      · subst hpt
        go_enter Tryd.func21, Tryd.ntmps21
        go_wp2
        all_goals (try (go_ret; exact post_mk rfl (by (try show Ex _ _); repeat (first | (with_reducible exact ex_refl _) | (with_reducible assumption) | (with_reducible refine ex_drewL ?_) | (with_reducible refine ex_appR ?_ _) | (with_reducible refine ex_wx ?_ _) | (with_reducible refine ex_drew ?_) | (with_reducible refine ex_alloc ?_ _)))))
        all_goals exfalso
        all_goals simp_all [ln_beq, ln_eqn]
      · skip
        go_enter Tryd.func21, Tryd.ntmps21
        go_wp2
        all_goals (try (go_ret; exact post_mk rfl (by (try show Ex _ _); repeat (first | (with_reducible exact ex_refl _) | (with_reducible assumption) | (with_reducible refine ex_drewL ?_) | (with_reducible refine ex_appR ?_ _) | (with_reducible refine ex_wx ?_ _) | (with_reducible refine ex_drew ?_) | (with_reducible refine ex_alloc ?_ _)))))
        all_goals exfalso
        all_goals simp_all [ln_beq, ln_eqn]
    · skip
      go_enter Tryd.func21, Tryd.ntmps21
      go_wp2
      all_goals (try (go_ret; exact post_mk rfl (by (try show Ex _ _); repeat (first | (with_reducible exact ex_refl _) | (with_reducible assumption) | (with_reducible refine ex_drewL ?_) | (with_reducible refine ex_appR ?_ _) | (with_reducible refine ex_wx ?_ _) | (with_reducible refine ex_drew ?_) | (with_reducible refine ex_alloc ?_ _)))))
      all_goals exfalso
      all_goals simp_all [ln_beq, ln_eqn]
end Go.Proofs.YtpcfkjeikhehaaaDoor

/- The document's Sealed. -/
set_option linter.unusedSimpArgs false
set_option linter.unusedVariables false
set_option maxRecDepth 20000
namespace Go.Proofs.YtpcfkjeikhehaaaDoor
open Go.RowKit
set_option maxHeartbeats 1000000 in
theorem refsealed_any (l : List UInt8) (v : Value) (w : World) (hs : SlT w v l) (hl : l.length ≤ 900000) :
    Calls Tryd.prog 25 #[v] w (PostOw w (sealL l)) := by
  have HS := Lib.hid hs
  obtain ⟨a, c, rfl, h1, h2, _⟩ := hs.out
  clear hs
  have h16 : ((bytesD (sumD l)).take 16).length = 16 := by rw [List.length_take, bytesD_len]; rfl
  have HF : Hid ((bytesD (sumD l)).take 16 ++ l = sealL l) := Lib.hid rfl
  go_enter Tryd.func25, Tryd.ntmps25
  go_wp2_with (first | (go_at_call 47; (with_reducible refine (refsum_slt (HS.out.ex (by (try show Ex _ _); repeat (first | (with_reducible exact ex_refl _) | (with_reducible assumption) | (with_reducible refine ex_drewL ?_) | (with_reducible refine ex_appR ?_ _) | (with_reducible refine ex_wx ?_ _) | (with_reducible refine ex_drew ?_) | (with_reducible refine ex_alloc ?_ _)))) (by omega)).mono ?_); rintro e w2 ⟨rfl, X, rfl⟩) | (go_at_call 48; (with_reducible refine (both_any _ _ _ _ _ (sls_dg16 (sumD l) (by (try show Ex _ _); repeat (first | (with_reducible exact ex_refl _) | (with_reducible assumption) | (with_reducible refine ex_drewL ?_) | (with_reducible refine ex_appR ?_ _) | (with_reducible refine ex_wx ?_ _) | (with_reducible refine ex_drew ?_) | (with_reducible refine ex_alloc ?_ _))) (by simp [go_sem])).slt (HS.out.ex (by (try show Ex _ _); repeat (first | (with_reducible exact ex_refl _) | (with_reducible assumption) | (with_reducible refine ex_drewL ?_) | (with_reducible refine ex_appR ?_ _) | (with_reducible refine ex_wx ?_ _) | (with_reducible refine ex_drew ?_) | (with_reducible refine ex_alloc ?_ _)))) (by omega)).mono ?_); rintro e w2 ⟨v2, rfl, hO, X2, rfl⟩))
  go_ret
  refine ⟨_, rfl, ?_, (by (try show Ex _ _); repeat (first | (with_reducible exact ex_refl _) | (with_reducible assumption) | (with_reducible refine ex_drewL ?_) | (with_reducible refine ex_appR ?_ _) | (with_reducible refine ex_wx ?_ _) | (with_reducible refine ex_drew ?_) | (with_reducible refine ex_alloc ?_ _)))⟩
  rw [← HF.out]
  exact owns_low hO (by simp [go_sem] <;> omega)
end Go.Proofs.YtpcfkjeikhehaaaDoor

/- The document's fields. -/
set_option linter.unusedSimpArgs false
set_option linter.unusedVariables false
set_option maxRecDepth 20000
namespace Go.Proofs.YtpcfkjeikhehaaaDoor
open Go.RowKit
theorem refshort_l (x : UInt64) (w : World) : Calls Tryd.prog 12 #[L x] w (PostOw w (shortL x.toNat)) := refshort_any x.toNat w (u64_toNat x)
set_option maxHeartbeats 1000000 in
theorem field_c (m : Ms) (v : Value) (w : World) (hs : MsV w v m) :
    Calls Tryd.prog 65 #[v, .int .u8 99] w (PostOw w (shortL m.cm.toNat)) := by
  obtain ⟨ev, mv, dv, rfl, _, _, _⟩ := hs.out
  clear hs
  have HS := Lib.hid (refshort_l m.cm)
  go_enter Tryd.func65, Tryd.ntmps65
  go_wp2_with (go_at_call 12; (with_reducible refine (HS.out _).mono ?_); rintro e w2 ⟨s1, rfl, hO, X1, rfl⟩)
  go_ret
  exact ⟨_, rfl, owns_low hO (by simp [go_sem]), (by (try show Ex _ _); repeat (first | (with_reducible exact ex_refl _) | (with_reducible assumption) | (with_reducible refine ex_drewL ?_) | (with_reducible refine ex_appR ?_ _) | (with_reducible refine ex_wx ?_ _) | (with_reducible refine ex_drew ?_) | (with_reducible refine ex_alloc ?_ _)))⟩
set_option maxHeartbeats 1000000 in
theorem field_o (m : Ms) (v : Value) (w : World) (hs : MsV w v m) :
    Calls Tryd.prog 65 #[v, .int .u8 111] w (PostOw w [boolL m.ok]) := by
  obtain ⟨ev, mv, dv, rfl, _, _, _⟩ := hs.out
  clear hs
  generalize m.ok = ob
  cases ob with
  | true =>
    go_enter Tryd.func65, Tryd.ntmps65
    go_wp2
    go_ret
    exact ⟨_, rfl, ownl_one (z := 1) (w := w.alloc (.cells #[I m.kd, I m.fr, I m.to, L m.tm, L m.pi, L m.pt, ev, L m.cm, .bool true, mv, dv] 41)) 1 (by (try show Ex _ _); repeat (first | (with_reducible exact ex_refl _) | (with_reducible assumption) | (with_reducible refine ex_drewL ?_) | (with_reducible refine ex_appR ?_ _) | (with_reducible refine ex_wx ?_ _) | (with_reducible refine ex_drew ?_) | (with_reducible refine ex_alloc ?_ _))) (by first | rfl | (simp [go_sem]; done)) (by simp [go_sem]) rfl, (by (try show Ex _ _); repeat (first | (with_reducible exact ex_refl _) | (with_reducible assumption) | (with_reducible refine ex_drewL ?_) | (with_reducible refine ex_appR ?_ _) | (with_reducible refine ex_wx ?_ _) | (with_reducible refine ex_drew ?_) | (with_reducible refine ex_alloc ?_ _)))⟩
  | false =>
    go_enter Tryd.func65, Tryd.ntmps65
    go_wp2
    go_ret
    exact ⟨_, rfl, ownl_one (z := 0) (w := w.alloc (.cells #[I m.kd, I m.fr, I m.to, L m.tm, L m.pi, L m.pt, ev, L m.cm, .bool false, mv, dv] 41)) 0 (by (try show Ex _ _); repeat (first | (with_reducible exact ex_refl _) | (with_reducible assumption) | (with_reducible refine ex_drewL ?_) | (with_reducible refine ex_appR ?_ _) | (with_reducible refine ex_wx ?_ _) | (with_reducible refine ex_drew ?_) | (with_reducible refine ex_alloc ?_ _))) (by first | rfl | (simp [go_sem]; done)) (by simp [go_sem]) rfl, (by (try show Ex _ _); repeat (first | (with_reducible exact ex_refl _) | (with_reducible assumption) | (with_reducible refine ex_drewL ?_) | (with_reducible refine ex_appR ?_ _) | (with_reducible refine ex_wx ?_ _) | (with_reducible refine ex_drew ?_) | (with_reducible refine ex_alloc ?_ _)))⟩
set_option maxHeartbeats 1000000 in
theorem field_p (m : Ms) (v : Value) (w : World) (hs : MsV w v m) :
    Calls Tryd.prog 65 #[v, .int .u8 112] w (PostOw w (shortL m.pi.toNat ++ shortL m.pt.toNat)) := by
  obtain ⟨ev, mv, dv, rfl, _, _, _⟩ := hs.out
  clear hs
  have HS := Lib.hid (refshort_l m.pi)
  have HT := Lib.hid (refshort_l m.pt)
  have l1 := shortL_len (u64_toNat m.pi)
  have l2 := shortL_len (u64_toNat m.pt)
  generalize shortL m.pi.toNat = s1 at *
  generalize shortL m.pt.toNat = s2 at *
  obtain ⟨A, hA⟩ : ∃ A, w.alloc (.cells #[I m.kd, I m.fr, I m.to, L m.tm, L m.pi, L m.pt, ev, L m.cm, .bool m.ok, mv, dv] 41) = A := ⟨_, rfl⟩
  have hq0 : A.heap[w.heap.size]? = some (.cells #[I m.kd, I m.fr, I m.to, L m.tm, L m.pi, L m.pt, ev, L m.cm, .bool m.ok, mv, dv] 41 (0, 0)) := by rw [← hA]; exact heap_alloc_new w _
  have hz0 : w.heap.size < A.heap.size := by rw [← hA]; simp [go_sem]
  have hk0 : Ex w A := by rw [← hA]; exact ex_alloc (ex_refl _) _
  obtain ⟨r4, _⟩ := block_cell (o := 4) hq0 rfl
  obtain ⟨r5, _⟩ := block_cell (o := 5) hq0 rfl
  simp only [List.getElem_toArray, List.getElem_cons_zero, List.getElem_cons_succ] at r4 r5
  replace hA := Lib.hid hA
  clear hq0
  go_enter Tryd.func65, Tryd.ntmps65
  go_wp2
  rw [hA.out]
  clear hA
  generalize m.pi = pi at *
  generalize m.pt = pt at *
  refine wp_region_fork (A) (.look 0 (.look 1 (.look 2 (.look 4 (.look 5 (.look 6 (.eff 3 (.eff 7 (.eff 8 (.look 9 .done)))))))))) (by (try show Ex _ _); repeat (first | (with_reducible exact ex_refl _) | (with_reducible assumption) | (with_reducible refine ex_drewL ?_) | (with_reducible refine ex_appR ?_ _) | (with_reducible refine ex_wx ?_ _) | (with_reducible refine ex_drew ?_) | (with_reducible refine ex_alloc ?_ _))) (by kernel_rfl) (by kernel_rfl) (fun _ _ d _ _ h => by cases d <;> exact h) ?_
  simp only [Fk.ops, nth]
  repeat (first | ((with_reducible refine wpFork_look ?_); go_big_quiet_step (fail); (try (with_reducible refine wpQuiet_nil ?_))) | (with_reducible refine wpFork_eff ?_) | ((with_reducible refine effT_F ?_ ?_); (focus rfl); go_simp) | ((with_reducible refine effT_T ?_ ?_); (focus rfl); (try dsimp only); go_wp2_with (first | (go_at_call 12; (with_reducible refine (HS.out _).mono ?_); rintro e w2 ⟨u1, rfl, hS, X8, rfl⟩; (try simp only [wx_wx, wx_drew] at hS)) | (go_at_call 12; (with_reducible refine (HT.out _).mono ?_); rintro e w2 ⟨u2, rfl, hT, X8, rfl⟩; (try simp only [wx_wx, wx_drew] at hT)) | (go_at_call 48; (with_reducible refine (both_any _ _ _ _ _ (hS.slt.ex (by (try show Ex _ _); repeat (first | (with_reducible exact ex_refl _) | (with_reducible assumption) | (with_reducible refine ex_drewL ?_) | (with_reducible refine ex_appR ?_ _) | (with_reducible refine ex_wx ?_ _) | (with_reducible refine ex_drew ?_) | (with_reducible refine ex_alloc ?_ _)))) (hT.slt.ex (by (try show Ex _ _); repeat (first | (with_reducible exact ex_refl _) | (with_reducible assumption) | (with_reducible refine ex_drewL ?_) | (with_reducible refine ex_appR ?_ _) | (with_reducible refine ex_wx ?_ _) | (with_reducible refine ex_drew ?_) | (with_reducible refine ex_alloc ?_ _)))) (by omega)).mono ?_); rintro e w2 ⟨u3, rfl, hO, X9, rfl⟩; (try simp only [wx_wx, wx_drew] at hO))); refine mixQ_mk (by (try show Ex _ _); repeat (first | (with_reducible exact ex_refl _) | (with_reducible assumption) | (with_reducible refine ex_drewL ?_) | (with_reducible refine ex_appR ?_ _) | (with_reducible refine ex_wx ?_ _) | (with_reducible refine ex_drew ?_) | (with_reducible refine ex_alloc ?_ _))) ?_))
  all_goals (with_reducible refine wpFork_nil ?_)
  all_goals
    go_wp2
    go_ret
    exact ⟨_, rfl, owns_low hO (by simp [go_sem] <;> omega), ex_trans hk0 (by (try show Ex _ _); repeat (first | (with_reducible exact ex_refl _) | (with_reducible assumption) | (with_reducible refine ex_drewL ?_) | (with_reducible refine ex_appR ?_ _) | (with_reducible refine ex_wx ?_ _) | (with_reducible refine ex_drew ?_) | (with_reducible refine ex_alloc ?_ _)))⟩
set_option maxHeartbeats 1000000 in
theorem field_d (m : Ms) (v : Value) (w : World) (hs : MsV w v m) (hl : m.da.length ≤ 900000) :
    Calls Tryd.prog 65 #[v, .int .u8 100] w (PostOw w (shortL m.da.length ++ m.da)) := by
  obtain ⟨ev, mv, dv, rfl, _, _, h3⟩ := hs.out
  have HB := Lib.hid (fun w' (k : Ex w w') => h3.ex k)
  obtain ⟨a3, c3, rfl, g1, g2, g3, _⟩ := h3.out
  clear hs h3
  have hu : (UInt64.ofNat m.da.length).toNat = m.da.length := by simp; omega
  have HS := Lib.hid (refshort_l (UInt64.ofNat m.da.length))
  rw [hu] at HS
  have hln : (ln (UInt64.ofNat m.da.length)) = (m.da.length : Int) := by unfold ln; rw [hu]
  have hL : L (UInt64.ofNat m.da.length) = .int .u64 (m.da.length : Int) := by show Value.int .u64 (ln _) = _; rw [hln]
  rw [hL] at HS
  have l1 := shortL_len (x := m.da.length) (by omega)
  have w1 : IntKind.u64.wrap (m.da.length : Int) = m.da.length := wrap_u64_nat _ (by omega)
  clear hu hln hL
  generalize shortL m.da.length = s1 at *
  generalize hdl : m.da.length = dl at *
  obtain ⟨A, hA⟩ : ∃ A, w.alloc (.cells #[I m.kd, I m.fr, I m.to, L m.tm, L m.pi, L m.pt, ev, L m.cm, .bool m.ok, mv, .slice a3 dl c3] 41) = A := ⟨_, rfl⟩
  have hq0 : A.heap[w.heap.size]? = some (.cells #[I m.kd, I m.fr, I m.to, L m.tm, L m.pi, L m.pt, ev, L m.cm, .bool m.ok, mv, .slice a3 dl c3] 41 (0, 0)) := by rw [← hA]; exact heap_alloc_new w _
  have hz0 : w.heap.size < A.heap.size := by rw [← hA]; simp [go_sem]
  have hk0 : Ex w A := by rw [← hA]; exact ex_alloc (ex_refl _) _
  obtain ⟨r10, _⟩ := block_cell (o := 10) hq0 rfl
  simp only [List.getElem_toArray, List.getElem_cons_zero, List.getElem_cons_succ] at r10
  replace hA := Lib.hid hA
  replace hdl := Lib.hid hdl
  clear hq0
  go_enter Tryd.func65, Tryd.ntmps65
  go_wp2
  rw [hA.out]
  clear hA
  refine wp_region_fork (A) (.look 0 (.look 1 (.look 2 (.look 3 (.look 5 (.look 6 (.eff 4 (.eff 7 (.look 8 .done))))))))) (by (try show Ex _ _); repeat (first | (with_reducible exact ex_refl _) | (with_reducible assumption) | (with_reducible refine ex_drewL ?_) | (with_reducible refine ex_appR ?_ _) | (with_reducible refine ex_wx ?_ _) | (with_reducible refine ex_drew ?_) | (with_reducible refine ex_alloc ?_ _))) (by kernel_rfl) (by kernel_rfl) (fun _ _ d _ _ h => by cases d <;> exact h) ?_
  simp only [Fk.ops, nth]
  repeat (first | ((with_reducible refine wpFork_look ?_); go_big_quiet_step (fail); (try (with_reducible refine wpQuiet_nil ?_))) | (with_reducible refine wpFork_eff ?_) | ((with_reducible refine effT_F ?_ ?_); (focus rfl); go_simp) | ((with_reducible refine effT_T ?_ ?_); (focus rfl); (try dsimp only); go_wp2_with (first | (go_at_call 12; (with_reducible refine (HS.out _).mono ?_); rintro e w2 ⟨u1, rfl, hS, X8, rfl⟩; (try simp only [wx_wx, wx_drew] at hS)) | (go_at_call 48; (with_reducible refine (both_any _ _ _ _ _ (hS.slt.ex (by (try show Ex _ _); repeat (first | (with_reducible exact ex_refl _) | (with_reducible assumption) | (with_reducible refine ex_drewL ?_) | (with_reducible refine ex_appR ?_ _) | (with_reducible refine ex_wx ?_ _) | (with_reducible refine ex_drew ?_) | (with_reducible refine ex_alloc ?_ _)))) (HB.out _ (ex_trans hk0 (by (try show Ex _ _); repeat (first | (with_reducible exact ex_refl _) | (with_reducible assumption) | (with_reducible refine ex_drewL ?_) | (with_reducible refine ex_appR ?_ _) | (with_reducible refine ex_wx ?_ _) | (with_reducible refine ex_drew ?_) | (with_reducible refine ex_alloc ?_ _))))) (by have := hdl.out; omega)).mono ?_); rintro e w2 ⟨u3, rfl, hO, X9, rfl⟩; (try simp only [wx_wx, wx_drew] at hO))); refine mixQ_mk (by (try show Ex _ _); repeat (first | (with_reducible exact ex_refl _) | (with_reducible assumption) | (with_reducible refine ex_drewL ?_) | (with_reducible refine ex_appR ?_ _) | (with_reducible refine ex_wx ?_ _) | (with_reducible refine ex_drew ?_) | (with_reducible refine ex_alloc ?_ _))) ?_))
  all_goals (with_reducible refine wpFork_nil ?_)
  all_goals
    go_wp2
    go_ret
    exact ⟨_, rfl, owns_low hO (by simp [go_sem] <;> omega), ex_trans hk0 (by (try show Ex _ _); repeat (first | (with_reducible exact ex_refl _) | (with_reducible assumption) | (with_reducible refine ex_drewL ?_) | (with_reducible refine ex_appR ?_ _) | (with_reducible refine ex_wx ?_ _) | (with_reducible refine ex_drew ?_) | (with_reducible refine ex_alloc ?_ _)))⟩
end Go.Proofs.YtpcfkjeikhehaaaDoor

/- The document's field of members. -/
set_option linter.unusedSimpArgs false
set_option linter.unusedVariables false
set_option maxRecDepth 20000
namespace Go.Proofs.YtpcfkjeikhehaaaDoor
open Go.RowKit
set_option maxHeartbeats 2000000 in
theorem field_m (m : Ms) (v : Value) (w : World) (hs : MsV w v m) (hl : m.mb.length ≤ 1000) :
    Calls Tryd.prog 65 #[v, .int .u8 109] w (PostOw w (shortL m.mb.length ++ m.mb.map byteI)) := by
  obtain ⟨ev, mv, dv, rfl, _, h2, _⟩ := hs.out
  obtain ⟨a2, c2, rfl, f1, f2, f3, r2⟩ := h2.out
  have HM : Hid (∀ W, Ex w W → ∀ i, i < m.mb.length → ∃ g off, a2 = some ⟨g, off, none⟩ ∧ g < W.heap.size ∧ W.cell? ⟨g, off + i, none⟩ = some (I (inAt m.mb i))) := Lib.hid fun W k i hi => (r2.ex k).row hi
  clear hs h2 r2
  obtain ⟨pre, hpre⟩ : ∃ pre : Nat → List UInt8, pre = fun k => shortL m.mb.length ++ (m.mb.take k).map byteI := ⟨_, rfl⟩
  have HP0 : Hid (pre 0 = shortL m.mb.length) := Lib.hid (by subst hpre; simp)
  have HP1 : Hid (∀ k, k < m.mb.length → pre (k + 1) = pre k ++ [byteI (inAt m.mb k)]) := Lib.hid fun k hk => by subst hpre; simp only [take_in hk, List.map_append, List.map_cons, List.map_nil, List.append_assoc]
  have HPn : Hid (pre m.mb.length = shortL m.mb.length ++ m.mb.map byteI) := Lib.hid (by subst hpre; simp)
  have HB : Hid (∀ k, k ≤ m.mb.length → (pre k).length ≤ 900000) := Lib.hid fun k hk => by
    subst hpre
    have := shortL_len (x := m.mb.length) (by omega)
    simp; omega
  have HS := Lib.hid (fun w' => refshort_any m.mb.length w' (by omega))
  clear hpre
  generalize shortL m.mb.length ++ m.mb.map byteI = fin at *
  generalize shortL m.mb.length = s0 at *
  generalize inAt m.mb = E at *
  generalize m.mb.length = n at *
  have w1 : IntKind.u64.wrap (n : Int) = n := wrap_u64_nat _ (by omega)
  unfold maxLen at f2
  obtain ⟨A, hA⟩ : ∃ A, w.alloc (.cells #[I m.kd, I m.fr, I m.to, L m.tm, L m.pi, L m.pt, ev, L m.cm, .bool m.ok, .slice a2 n c2, dv] 41) = A := ⟨_, rfl⟩
  have hq0 : A.heap[w.heap.size]? = some (.cells #[I m.kd, I m.fr, I m.to, L m.tm, L m.pi, L m.pt, ev, L m.cm, .bool m.ok, .slice a2 n c2, dv] 41 (0, 0)) := by rw [← hA]; exact heap_alloc_new w _
  have hz0 : w.heap.size < A.heap.size := by rw [← hA]; simp [go_sem]
  have hk0 : Ex w A := by rw [← hA]; exact ex_alloc (ex_refl _) _
  obtain ⟨r9, _⟩ := block_cell (o := 9) hq0 rfl
  simp only [List.getElem_toArray, List.getElem_cons_zero, List.getElem_cons_succ] at r9
  replace hA := Lib.hid hA
  clear hq0
  go_enter Tryd.func65, Tryd.ntmps65
  go_wp2_with (go_at_call 12; (with_reducible refine (HS.out _).mono ?_); rintro e w2 ⟨u1, rfl, hS, X8, rfl⟩; (try simp only [wx_wx, wx_drew] at hS))
  rw [hA.out] at hS ⊢
  clear hA
  go_loopw [5, 97] (fun b i W => ∃ k : Nat, k ≤ n ∧ i = I k ∧ Hid (OwnL W A.heap.size b (pre k)) ∧ Hid (Ex A W)) (fun _ i _ => n - (intOf i).toNat)
  case atStart =>
    refine ⟨0, by omega, rfl, Lib.hid ?_, Lib.hid (by (try show Ex _ _); repeat (first | (with_reducible exact ex_refl _) | (with_reducible assumption) | (with_reducible refine ex_drewL ?_) | (with_reducible refine ex_appR ?_ _) | (with_reducible refine ex_wx ?_ _) | (with_reducible refine ex_drew ?_) | (with_reducible refine ex_alloc ?_ _)))⟩
    rw [HP0.out]; exact owns_low hS (by simp [go_sem])
  case round =>
    obtain ⟨k, hk, rfl, hO, hAr⟩ := hrel
    by_cases hlt : k < n
    · obtain ⟨g, off, rfl, r1, c0⟩ := HM.out _ (ex_trans hk0 hAr.out) k hlt
      have hz3 := ex_size hAr.out
      have hPk := Lib.hid (HP1.out k hlt)
      have hBk := Lib.hid (HB.out k hk)
      clear HM HP1 HB HP0 HS hS
      generalize E k = e at *
      have HBb := Lib.hid (bn_byteI e)
      go_wp2_with (at_builtin; refine wpAppT (Z := A.heap.size) _ _ rfl rfl (hO.out.ex (by (try show Ex _ _); repeat (first | (with_reducible exact ex_refl _) | (with_reducible assumption) | (with_reducible refine ex_drewL ?_) | (with_reducible refine ex_appR ?_ _) | (with_reducible refine ex_wx ?_ _) | (with_reducible refine ex_drew ?_) | (with_reducible refine ex_alloc ?_ _)))) rfl rfl (sls_one (byteI e) (by (try show Ex _ _); repeat (first | (with_reducible exact ex_refl _) | (with_reducible assumption) | (with_reducible refine ex_drewL ?_) | (with_reducible refine ex_appR ?_ _) | (with_reducible refine ex_wx ?_ _) | (with_reducible refine ex_drew ?_) | (with_reducible refine ex_alloc ?_ _))) (by first | rfl | omega) HBb.out.symm).slt (by have := hBk.out; simp; omega) (Nat.le_trans hz3 (ex_size (by (try show Ex _ _); repeat (first | (with_reducible exact ex_refl _) | (with_reducible assumption) | (with_reducible refine ex_drewL ?_) | (with_reducible refine ex_appR ?_ _) | (with_reducible refine ex_wx ?_ _) | (with_reducible refine ex_drew ?_) | (with_reducible refine ex_alloc ?_ _))))) (fun v1 w3 hO1 hA1 => ?_))
      refine ⟨⟨k + 1, by omega, by go_num, Lib.hid ?_, Lib.hid (hA1.ex (ex_trans hAr.out (by (try show Ex _ _); repeat (first | (with_reducible exact ex_refl _) | (with_reducible assumption) | (with_reducible refine ex_drewL ?_) | (with_reducible refine ex_appR ?_ _) | (with_reducible refine ex_wx ?_ _) | (with_reducible refine ex_drew ?_) | (with_reducible refine ex_alloc ?_ _)))) (hO.out.ex (by (try show Ex _ _); repeat (first | (with_reducible exact ex_refl _) | (with_reducible assumption) | (with_reducible refine ex_drewL ?_) | (with_reducible refine ex_appR ?_ _) | (with_reducible refine ex_wx ?_ _) | (with_reducible refine ex_drew ?_) | (with_reducible refine ex_alloc ?_ _)))))⟩, by simp [intOf]; omega⟩
      rw [hPk.out]; exact hO1
    · obtain rfl : k = n := by omega
      clear hlt hk HM HP1 HB HP0 HS hS
      go_wp2
      go_ret
      exact ⟨_, rfl, by rw [← HPn.out]; exact owns_low hO.out (Nat.le_of_lt hz0), ex_trans hk0 hAr.out⟩
end Go.Proofs.YtpcfkjeikhehaaaDoor
