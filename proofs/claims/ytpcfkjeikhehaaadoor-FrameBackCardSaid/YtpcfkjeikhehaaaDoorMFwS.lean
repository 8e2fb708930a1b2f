import Derived.Test.YtpcfkjeikhehaaaDoorMFwB

/- The document's Both; whether messages are the same. -/
set_option linter.unusedSimpArgs false
set_option linter.unusedVariables false
set_option maxRecDepth 20000
namespace Go.Proofs.YtpcfkjeikhehaaaDoor
open Go.RowKit
theorem ownl_cap {w w' : World} {g cap : Nat} (k : Ex (w.alloc (.cells (rowB cap fun _ => 0) 5)) w') (hg : g = w.heap.size) (hc : cap ≤ maxLen) : OwnL w' w.heap.size (.slice (some ⟨g, 0, none⟩) 0 cap) [] := by
  subst hg
  exact owns_ex (owns_new (B := w.heap.size) (s := 1) (n := 0) (cap := cap) (xs := Lib.byteCells []) rfl (Nat.le_refl _) (by omega) hc (by simp) (by simp [Lib.byteCells])) k
set_option maxHeartbeats 1000000 in
theorem both_any (l r : List UInt8) (va vb : Value) (w : World) (h1 : SlT w va l) (h2 : SlT w vb r) (hl : l.length + r.length ≤ 1000000) :
    Calls Tryd.prog 48 #[va, vb] w (PostOw w (l ++ r)) := by
  have H1 := Lib.hid (fun w' (k : Ex w w') => h1.ex k)
  have H2 := Lib.hid (fun w' (k : Ex w w') => h2.ex k)
  obtain ⟨a, c, rfl, k1, k2, k3, _⟩ := h1.out
  obtain ⟨b, d, rfl, k4, k5, k6, _⟩ := h2.out
  clear h1 h2
  obtain ⟨n, hn⟩ : ∃ n, l.length = n := ⟨_, rfl⟩
  obtain ⟨m, hm⟩ : ∃ m, r.length = m := ⟨_, rfl⟩
  have HN := Lib.hid hn
  have HM := Lib.hid hm
  rw [hn] at H1 hl k1 ⊢
  rw [hm] at H2 hl k4 ⊢
  clear hn hm
  have e1 : (0 : Int) ≤ (n : Int) + m := by omega
  have e2 : (n : Int) + m ≤ 281474976710656 := by omega
  go_enter Tryd.func48, Tryd.ntmps48
  go_wp2_with (first | (at_builtin; refine wpAppT (l := []) _ _ rfl rfl (ownl_cap (w := w) (cap := n + m) (by (try show Ex _ _); repeat (first | (with_reducible exact ex_refl _) | (with_reducible assumption) | (with_reducible refine ex_drewL ?_) | (with_reducible refine ex_appR ?_ _) | (with_reducible refine ex_wx ?_ _) | (with_reducible refine ex_drew ?_) | (with_reducible refine ex_alloc ?_ _))) rfl (by unfold maxLen; omega)) rfl rfl (H1.out _ (by (try show Ex _ _); repeat (first | (with_reducible exact ex_refl _) | (with_reducible assumption) | (with_reducible refine ex_drewL ?_) | (with_reducible refine ex_appR ?_ _) | (with_reducible refine ex_wx ?_ _) | (with_reducible refine ex_drew ?_) | (with_reducible refine ex_alloc ?_ _)))) (by have := HN.out; simp; omega) (by simp [go_sem]) (fun v1 w1 hown hA1 => ?_); obtain ⟨X1, rfl⟩ := hA1.ex (A := w) (by (try show Ex _ _); repeat (first | (with_reducible exact ex_refl _) | (with_reducible assumption) | (with_reducible refine ex_drewL ?_) | (with_reducible refine ex_appR ?_ _) | (with_reducible refine ex_wx ?_ _) | (with_reducible refine ex_drew ?_) | (with_reducible refine ex_alloc ?_ _))) (ownl_cap (w := w) (cap := n + m) (by (try show Ex _ _); repeat (first | (with_reducible exact ex_refl _) | (with_reducible assumption) | (with_reducible refine ex_drewL ?_) | (with_reducible refine ex_appR ?_ _) | (with_reducible refine ex_wx ?_ _) | (with_reducible refine ex_drew ?_) | (with_reducible refine ex_alloc ?_ _))) rfl (by unfold maxLen; omega)); clear hA1) | (at_builtin; refine wpAppT _ _ rfl rfl hown rfl rfl (H2.out _ (by (try show Ex _ _); repeat (first | (with_reducible exact ex_refl _) | (with_reducible assumption) | (with_reducible refine ex_drewL ?_) | (with_reducible refine ex_appR ?_ _) | (with_reducible refine ex_wx ?_ _) | (with_reducible refine ex_drew ?_) | (with_reducible refine ex_alloc ?_ _)))) (by have := HN.out; have := HM.out; simp; omega) (by simp [go_sem]) (fun v2 w2 hown2 hA2 => ?_); obtain ⟨X2, rfl⟩ := hA2.ex (A := w) (by (try show Ex _ _); repeat (first | (with_reducible exact ex_refl _) | (with_reducible assumption) | (with_reducible refine ex_drewL ?_) | (with_reducible refine ex_appR ?_ _) | (with_reducible refine ex_wx ?_ _) | (with_reducible refine ex_drew ?_) | (with_reducible refine ex_alloc ?_ _))) hown; clear hA2))
  go_ret
  refine ⟨_, rfl, ?_, (by (try show Ex _ _); repeat (first | (with_reducible exact ex_refl _) | (with_reducible assumption) | (with_reducible refine ex_drewL ?_) | (with_reducible refine ex_appR ?_ _) | (with_reducible refine ex_wx ?_ _) | (with_reducible refine ex_drew ?_) | (with_reducible refine ex_alloc ?_ _)))⟩
  simpa using hown2
set_option maxHeartbeats 2000000 in
theorem sameE_any (l m : List En) (v u : Value) (w : World) (hs : SlG w v l) (ht : SlG w u m) :
    Calls Tryd.prog 42 #[v, u] w (Post w (.bool (decide (l = m)))) := by
  obtain ⟨a, c, rfl, hc, hcm, _, hs⟩ := hs.out
  obtain ⟨b, d, rfl, hd, hdm, _, ht⟩ := ht.out
  by_cases hlm : l.length = m.length
  · have HS : Hid (∀ W, Ex w W → ∀ i, i < m.length → ∃ g off da dc, a = some ⟨g, off, none⟩ ∧ g < W.heap.size ∧ W.cell? ⟨g, off + i * 3, none⟩ = some (L (enAt l i).1) ∧ W.cell? ⟨g, off + i * 3 + 1, none⟩ = some (I (enAt l i).2.1) ∧
      W.cell? ⟨g, off + i * 3 + 2, none⟩ = some (.slice da (enAt l i).2.2.length dc) ∧ SlT W (.slice da (enAt l i).2.2.length dc) (enAt l i).2.2) := Lib.hid fun W k i hi => (hs.ex k).row (by omega)
    have HT : Hid (∀ W, Ex w W → ∀ i, i < m.length → ∃ g off da dc, b = some ⟨g, off, none⟩ ∧ g < W.heap.size ∧ W.cell? ⟨g, off + i * 3, none⟩ = some (L (enAt m i).1) ∧ W.cell? ⟨g, off + i * 3 + 1, none⟩ = some (I (enAt m i).2.1) ∧
      W.cell? ⟨g, off + i * 3 + 2, none⟩ = some (.slice da (enAt m i).2.2.length dc) ∧ SlT W (.slice da (enAt m i).2.2.length dc) (enAt m i).2.2) := Lib.hid fun W k i hi => (ht.ex k).row hi
    have H1 : Hid ((∀ i, i < m.length → enAt l i = enAt m i) → decide (l = m) = true) := Lib.hid fun h => decide_eq_true (enAt_ext hlm (by rw [hlm]; exact h))
    have H0 : Hid (∀ i, i < m.length → enAt l i ≠ enAt m i → decide (l = m) = false) := Lib.hid fun i hi h => decide_eq_false fun e => h (by rw [e])
    rw [hlm] at hc ⊢
    generalize decide (l = m) = ov at H0 H1 ⊢
    generalize m.length = n at *
    generalize enAt l = p at HS H0 H1
    generalize enAt m = q at HT H0 H1
    clear hlm hs ht
    unfold maxLen at hcm hdm
    go_enter Tryd.func42, Tryd.ntmps42
    go_wp2
    go_loopw [15] (fun i wr => ∃ k : Nat, k ≤ n ∧ i = I k ∧ Hid (∀ i, i < k → p i = q i) ∧ Ex w wr) (fun i _ => n - (intOf i).toNat)
    case atStart => exact ⟨0, by omega, rfl, Lib.hid (fun i hi => absurd hi (by omega)), (by (try show Ex _ _); repeat (first | (with_reducible exact ex_refl _) | (with_reducible assumption) | (with_reducible refine ex_drewL ?_) | (with_reducible refine ex_appR ?_ _) | (with_reducible refine ex_wx ?_ _) | (with_reducible refine ex_drew ?_) | (with_reducible refine ex_alloc ?_ _)))⟩
    case round =>
      obtain ⟨k, hk, rfl, HQ, X9, rfl⟩ := hrel
      by_cases hlt : k < n
      · obtain ⟨g, off, da, dc, rfl, hg, x0, x1, x2, x3⟩ := HS.out _ ⟨X9, rfl⟩ k hlt
        obtain ⟨g', off', ea, ec, rfl, hg', y0, y1, y2, y3⟩ := HT.out _ ⟨X9, rfl⟩ k hlt
        have H0' := Lib.hid (H0.out k hlt)
        have hBe : Hid (∀ i, i < k + 1 → i < k ∨ i = k) := Lib.hid fun i h => by omega
        clear HS HT H0 H1
        generalize hp : p k = x at *
        generalize hq : q k = y at *
        replace hp := Lib.hid hp
        replace hq := Lib.hid hq
        obtain ⟨xa, xb, xc⟩ := x
        obtain ⟨ya, yb, yc⟩ := y
        simp only at x0 x1 x2 x3 y0 y1 y2 y3
        have HSa := Lib.hid (fun w' (kx : Ex (wx w X9) w') => sameL_any xc yc _ _ w' (x3.ex kx) (y3.ex kx))
        have HE1 : Hid (xa = ya → xb = yb → decide (xc = yc) = true → ((xa, xb, xc) : En) = (ya, yb, yc)) := Lib.hid fun h1 h2 h3 => by rw [h1, h2, of_decide_eq_true h3]
        have HE2 : Hid (decide (xc = yc) = false → ((xa, xb, xc) : En) ≠ (ya, yb, yc)) := Lib.hid fun h h2 => by
          have : xc = yc := by simpa using congrArg (fun t => t.2.2) h2
          rw [decide_eq_true this] at h; cases h
        have HE3 : Hid (xa ≠ ya → ((xa, xb, xc) : En) ≠ (ya, yb, yc)) := Lib.hid fun h h2 => h (congrArg (fun t => t.1) h2)
        have HE4 : Hid (xb ≠ yb → ((xa, xb, xc) : En) ≠ (ya, yb, yc)) := Lib.hid fun h h2 => h (congrArg (fun t => t.2.1) h2)
        clear x3 y3
        generalize decide (xc = yc) = sb at *
        generalize xc.length = xl at *
        generalize yc.length = yl at *
        have hl1 : (ln xa == ln ya) = decide (xa = ya) := ln_beq xa ya
        by_cases ha : xa = ya
        · by_cases hb : xb = yb
          · subst ha
            subst hb
            clear hl1
            cases sb with
            | true =>
              have hxy := HE1.out rfl rfl rfl
              clear HE1 HE2 HE3 HE4 H0'
              go_wp2_with (go_at_call 10; (with_reducible refine (HSa.out _ (by (try show Ex _ _); repeat (first | (with_reducible exact ex_refl _) | (with_reducible assumption) | (with_reducible refine ex_drewL ?_) | (with_reducible refine ex_appR ?_ _) | (with_reducible refine ex_wx ?_ _) | (with_reducible refine ex_drew ?_) | (with_reducible refine ex_alloc ?_ _)))).mono ?_); rintro e w2 ⟨rfl, X, rfl⟩)
              refine ⟨⟨k + 1, by omega, by go_num, Lib.hid fun i hi => ?_, (by (try show Ex _ _); repeat (first | (with_reducible exact ex_refl _) | (with_reducible assumption) | (with_reducible refine ex_drewL ?_) | (with_reducible refine ex_appR ?_ _) | (with_reducible refine ex_wx ?_ _) | (with_reducible refine ex_drew ?_) | (with_reducible refine ex_alloc ?_ _)))⟩, by simp [intOf]; omega⟩
              rcases hBe.out i hi with h9 | rfl
              · exact HQ.out i h9
              · rw [hp.out, hq.out, hxy]
            | false =>
              have ho : ov = false := H0'.out (HE2.out rfl)
              subst ho
              clear HE1 HE2 HE3 HE4 H0'
              go_wp2_with (go_at_call 10; (with_reducible refine (HSa.out _ (by (try show Ex _ _); repeat (first | (with_reducible exact ex_refl _) | (with_reducible assumption) | (with_reducible refine ex_drewL ?_) | (with_reducible refine ex_appR ?_ _) | (with_reducible refine ex_wx ?_ _) | (with_reducible refine ex_drew ?_) | (with_reducible refine ex_alloc ?_ _)))).mono ?_); rintro e w2 ⟨rfl, X, rfl⟩)
              go_ret
              exact post_mk rfl (by (try show Ex _ _); repeat (first | (with_reducible exact ex_refl _) | (with_reducible assumption) | (with_reducible refine ex_drewL ?_) | (with_reducible refine ex_appR ?_ _) | (with_reducible refine ex_wx ?_ _) | (with_reducible refine ex_drew ?_) | (with_reducible refine ex_alloc ?_ _)))
          · have ho : ov = false := H0'.out (HE4.out hb)
            subst ho
            subst ha
            have hb1 : (xb == yb) = false := beq_eq_false_iff_ne.2 hb
            clear HE1 HE2 HE3 HE4 H0' hl1
            go_wp2
            go_ret
            exact post_mk rfl (by (try show Ex _ _); repeat (first | (with_reducible exact ex_refl _) | (with_reducible assumption) | (with_reducible refine ex_drewL ?_) | (with_reducible refine ex_appR ?_ _) | (with_reducible refine ex_wx ?_ _) | (with_reducible refine ex_drew ?_) | (with_reducible refine ex_alloc ?_ _)))
        · have ho : ov = false := H0'.out (HE3.out ha)
          subst ho
          rw [decide_eq_false ha] at hl1
          have hl2 : ¬ ln xa = ln ya := fun h => ha (ln_inj h)
          clear HE1 HE2 HE3 HE4 H0' ha
          go_wp2
          go_ret
          exact post_mk rfl (by (try show Ex _ _); repeat (first | (with_reducible exact ex_refl _) | (with_reducible assumption) | (with_reducible refine ex_drewL ?_) | (with_reducible refine ex_appR ?_ _) | (with_reducible refine ex_wx ?_ _) | (with_reducible refine ex_drew ?_) | (with_reducible refine ex_alloc ?_ _)))
      · obtain rfl : k = n := by omega
        have ho : ov = true := H1.out HQ.out
        subst ho
        clear HS HT H0 H1 hlt hk
        go_wp2
        go_ret
        exact post_mk rfl (by (try show Ex _ _); repeat (first | (with_reducible exact ex_refl _) | (with_reducible assumption) | (with_reducible refine ex_drewL ?_) | (with_reducible refine ex_appR ?_ _) | (with_reducible refine ex_wx ?_ _) | (with_reducible refine ex_drew ?_) | (with_reducible refine ex_alloc ?_ _)))
  · have ho : decide (l = m) = false := decide_eq_false fun h => hlm (by rw [h])
    rw [ho]
    clear ho hs ht
    have e1 : ((l.length : Int) == m.length) = false := beq_eq_false_iff_ne.2 (by omega)
    generalize l.length = n1 at *
    generalize m.length = n2 at *
    have e2 : ¬ (n1 : Int) = n2 := by omega
    go_enter Tryd.func42, Tryd.ntmps42
    go_wp2
    go_ret
    exact post_mk rfl (by (try show Ex _ _); repeat (first | (with_reducible exact ex_refl _) | (with_reducible assumption) | (with_reducible refine ex_drewL ?_) | (with_reducible refine ex_appR ?_ _) | (with_reducible refine ex_wx ?_ _) | (with_reducible refine ex_drew ?_) | (with_reducible refine ex_alloc ?_ _)))
end Go.Proofs.YtpcfkjeikhehaaaDoor

/- The document's Same. -/
set_option linter.unusedSimpArgs false
set_option linter.unusedVariables false
set_option maxRecDepth 20000
namespace Go.Proofs.YtpcfkjeikhehaaaDoor
open Go.RowKit
theorem mb_iff (l m : List Int) : l = m ↔ l.length = m.length ∧ ∀ i, i < l.length → inAt l i = inAt m i :=
  ⟨fun h => by subst h; exact ⟨rfl, fun _ _ => rfl⟩, fun h => inAt_ext h.1 h.2⟩
theorem same_iff2 (x y : Ms) : sameM x y = true ↔ ((x.kd = y.kd ∧ x.fr = y.fr ∧ x.to = y.to ∧ x.tm = y.tm ∧ x.pi = y.pi ∧ x.pt = y.pt ∧ x.cm = y.cm ∧ x.ok = y.ok ∧ x.mb.length = y.mb.length) ∧ (∀ i, i < x.mb.length → inAt x.mb i = inAt y.mb i) ∧ decide (x.es = y.es) = true ∧ decide (x.da = y.da) = true) := by
  rw [sameM_iff]
  constructor
  · rintro rfl; simp
  · rintro ⟨⟨h1, h2, h3, h4, h5, h6, h7, h8, h9⟩, h10, h11, h12⟩
    have := (mb_iff x.mb y.mb).2 ⟨h9, h10⟩
    have h11 := of_decide_eq_true h11
    have h12 := of_decide_eq_true h12
    cases x; cases y
    simp_all
set_option maxHeartbeats 4000000 in
theorem refsame_any (x y : Ms) (v u : Value) (w : World) (hx : MsV w v x) (hy : MsV w u y) :
    Calls Tryd.prog 21 #[v, u] w (Post w (.bool (sameM x y))) := by
  have HI := same_iff2 x y
  obtain ⟨ev, mv, dv, rfl, x1, x2, x3⟩ := hx.out
  obtain ⟨eu, mu, du, rfl, y1, y2, y3⟩ := hy.out
  have HE := Lib.hid (fun w' (k : Ex w w') => sameE_any x.es y.es ev eu w' (x1.ex k) (y1.ex k))
  have HD := Lib.hid (fun w' (k : Ex w w') => sameL_any x.da y.da dv du w' (x3.ex k) (y3.ex k))
  obtain ⟨a1, c1, rfl, _⟩ := id x1.out
  obtain ⟨a2, c2, rfl, xm1, xm2, xm3, xm⟩ := id x2.out
  obtain ⟨a3, c3, rfl, _⟩ := id x3.out
  obtain ⟨b1, d1, rfl, _⟩ := id y1.out
  obtain ⟨b2, d2, rfl, ym1, ym2, ym3, ym⟩ := id y2.out
  obtain ⟨b3, d3, rfl, _⟩ := id y3.out
  have HM : Hid (∀ W, Ex w W → ∀ i, i < x.mb.length → ∃ g off, a2 = some ⟨g, off, none⟩ ∧ g < W.heap.size ∧ W.cell? ⟨g, off + i, none⟩ = some (I (inAt x.mb i))) := Lib.hid fun W k i hi => (xm.ex k).row hi
  have HM2 : Hid (∀ W, Ex w W → ∀ i, i < y.mb.length → ∃ g off, b2 = some ⟨g, off, none⟩ ∧ g < W.heap.size ∧ W.cell? ⟨g, off + i, none⟩ = some (I (inAt y.mb i))) := Lib.hid fun W k i hi => (ym.ex k).row hi
  have HN0 := fun h => Bool.eq_false_iff.2 (mt HI.1 h)
  have HN := Lib.hid HN0
  clear HN0
  have HY := Lib.hid HI.2
  clear HI x1 x2 x3 y1 y2 y3 hx hy xm ym
  generalize sameM x y = ov at *
  generalize decide (x.es = y.es) = be at *
  generalize decide (x.da = y.da) = bd at *
  generalize inAt x.mb = P1 at *
  generalize inAt y.mb = P2 at *
  generalize x.es.length = n1 at *
  generalize x.mb.length = n2 at *
  generalize x.da.length = n3 at *
  generalize y.es.length = m1 at *
  generalize y.mb.length = m2 at *
  generalize y.da.length = m3 at *
  obtain ⟨kd, fr, to, tm, pi, pt, es, cm, ok, mb, da⟩ := x
  obtain ⟨kd', fr', to', tm', pi', pt', es', cm', ok', mb', da'⟩ := y
  simp only at *
  by_cases hC : kd = kd' ∧ fr = fr' ∧ to = to' ∧ tm = tm' ∧ pi = pi' ∧ pt = pt' ∧ cm = cm' ∧ ok = ok' ∧ n2 = m2
  · obtain ⟨rfl, rfl, rfl, rfl, rfl, rfl, rfl, rfl, rfl⟩ := hC
    have HN2 : Hid (¬ ((∀ i, i < n2 → P1 i = P2 i) ∧ be = true ∧ bd = true) → ov = false) := Lib.hid fun h => HN.out fun hc => h hc.2
    have HY2 : Hid ((∀ i, i < n2 → P1 i = P2 i) ∧ be = true ∧ bd = true → ov = true) := Lib.hid fun h => HY.out ⟨⟨rfl, rfl, rfl, rfl, rfl, rfl, rfl, rfl, rfl⟩, h⟩
    clear HN HY
    unfold maxLen at xm2 ym2
    obtain ⟨A, hA⟩ : ∃ A, (w.alloc (.cells #[I kd, I fr, I to, L tm, L pi, L pt, .slice a1 n1 c1, L cm, .bool ok, .slice a2 n2 c2, .slice a3 n3 c3] 41)).alloc (.cells #[I kd, I fr, I to, L tm, L pi, L pt, .slice b1 m1 d1, L cm, .bool ok, .slice b2 n2 d2, .slice b3 m3 d3] 41) = A := ⟨_, rfl⟩
    have hs0 : w.heap.size + 2 = A.heap.size := by rw [← hA]; simp [go_sem]
    have hq0 : A.heap[w.heap.size]? = some (.cells #[I kd, I fr, I to, L tm, L pi, L pt, .slice a1 n1 c1, L cm, .bool ok, .slice a2 n2 c2, .slice a3 n3 c3] 41 (0, 0)) := by rw [← hA]; exact (ex_of_alloc _ _ _ (by simp [go_sem])).trans (heap_alloc_new w _)
    have hq1 : A.heap[w.heap.size + 1]? = some (.cells #[I kd, I fr, I to, L tm, L pi, L pt, .slice b1 m1 d1, L cm, .bool ok, .slice b2 n2 d2, .slice b3 m3 d3] 41 (0, 0)) := by rw [← hA]; exact alloc_at (by simp [go_sem])
    have hk0 : Ex w A := by rw [← hA]; exact ex_alloc (ex_alloc (ex_refl _) _) _
    replace hA := Lib.hid hA
    replace hq0 := Lib.hid hq0
    replace hq1 := Lib.hid hq1
    go_enter Tryd.func21, Tryd.ntmps21
    go_wp2
    rw [hA.out]
    obtain ⟨x6, _⟩ := block_cell (o := 6) hq0.out rfl
    obtain ⟨x9, _⟩ := block_cell (o := 9) hq0.out rfl
    obtain ⟨x10, _⟩ := block_cell (o := 10) hq0.out rfl
    obtain ⟨y6, _⟩ := block_cell (o := 6) hq1.out rfl
    obtain ⟨y9, _⟩ := block_cell (o := 9) hq1.out rfl
    obtain ⟨y10, _⟩ := block_cell (o := 10) hq1.out rfl
    simp only [List.getElem_toArray, List.getElem_cons_zero, List.getElem_cons_succ] at x6 x9 x10 y6 y9 y10
    clear hA hq0 hq1
    go_loopw [68] (fun i wr => ∃ k : Nat, k ≤ n2 ∧ i = I k ∧ Hid (∀ i, i < k → P1 i = P2 i) ∧ Ex A wr) (fun i _ => n2 - (intOf i).toNat)
    case atStart => exact ⟨0, by omega, rfl, Lib.hid (fun i h => absurd h (by omega)), (by (try show Ex _ _); repeat (first | (with_reducible exact ex_refl _) | (with_reducible assumption) | (with_reducible refine ex_drewL ?_) | (with_reducible refine ex_appR ?_ _) | (with_reducible refine ex_wx ?_ _) | (with_reducible refine ex_drew ?_) | (with_reducible refine ex_alloc ?_ _)))⟩
    case round =>
      obtain ⟨q, hq, rfl, HQ, Y9, rfl⟩ := hrel
      by_cases hlt : q < n2
      · obtain ⟨g, off, rfl, hg, hcl⟩ := HM.out _ hk0 q hlt
        obtain ⟨g', off', rfl, hg', hcl'⟩ := HM2.out _ hk0 q hlt
        have hNb : Hid (¬ (P1 q = P2 q) → ov = false) := Lib.hid fun h => HN2.out fun hC => h (hC.1 q hlt)
        have hBe : Hid (∀ i, i < q + 1 → i < q ∨ i = q) := Lib.hid fun i h => by omega
        clear HM HM2
        by_cases he : P1 q = P2 q
        · have he2 := Lib.hid he
          rw [he] at hcl
          clear he
          go_wp2
          refine wp_region_seq [(0, true), (1, true), (2, true), (3, true), (4, true), (5, true), (6, true), (7, true), (8, true), (9, true), (10, true), (11, true), (12, true)] (by kernel_rfl) (by kernel_rfl) (fun _ _ d _ _ h => by cases d <;> exact h) ?_
          simp only [List.map_cons, List.map_nil, nth]
          repeat (first | ((with_reducible refine wpSeq_look ?_); go_big_quiet_step (fail); (with_reducible refine wpQuiet_nil ?_)) | ((with_reducible refine wpSeq_effF ?_ ?_); (focus rfl); go_simp) | ((with_reducible refine wpSeq_eff ?_ ?_); (focus rfl); (try dsimp only); go_wp2_with (fail); refine mixQ_mk (by (try show Ex _ _); repeat (first | (with_reducible exact ex_refl _) | (with_reducible assumption) | (with_reducible refine ex_drewL ?_) | (with_reducible refine ex_appR ?_ _) | (with_reducible refine ex_wx ?_ _) | (with_reducible refine ex_drew ?_) | (with_reducible refine ex_alloc ?_ _))) ?_))
          refine wpSeq_nil ?_
          go_wp2
          refine ⟨⟨q + 1, by omega, by go_num, Lib.hid fun i hi => ?_, (by (try show Ex _ _); repeat (first | (with_reducible exact ex_refl _) | (with_reducible assumption) | (with_reducible refine ex_drewL ?_) | (with_reducible refine ex_appR ?_ _) | (with_reducible refine ex_wx ?_ _) | (with_reducible refine ex_drew ?_) | (with_reducible refine ex_alloc ?_ _)))⟩, by simp [intOf]; omega⟩
          rcases hBe.out i hi with h9 | rfl
          · exact HQ.out i h9
          · exact he2.out
        · have ho : ov = false := hNb.out he
          subst ho
          have he1 : (P1 q == P2 q) = false := beq_eq_false_iff_ne.2 he
          go_wp2
          refine wp_region_seq [(0, true), (1, true), (2, true), (3, true), (4, true), (5, true), (6, true), (7, true), (8, true), (9, true), (10, true), (11, true), (12, true)] (by kernel_rfl) (by kernel_rfl) (fun _ _ d _ _ h => by cases d <;> exact h) ?_
          simp only [List.map_cons, List.map_nil, nth]
          repeat (first | ((with_reducible refine wpSeq_look ?_); go_big_quiet_step (fail); (with_reducible refine wpQuiet_nil ?_)) | ((with_reducible refine wpSeq_effF ?_ ?_); (focus rfl); go_simp) | ((with_reducible refine wpSeq_eff ?_ ?_); (focus rfl); (try dsimp only); go_wp2_with (fail); refine mixQ_mk (by (try show Ex _ _); repeat (first | (with_reducible exact ex_refl _) | (with_reducible assumption) | (with_reducible refine ex_drewL ?_) | (with_reducible refine ex_appR ?_ _) | (with_reducible refine ex_wx ?_ _) | (with_reducible refine ex_drew ?_) | (with_reducible refine ex_alloc ?_ _))) ?_))
          refine wpSeq_nil ?_
          go_wp2
          go_ret
          exact post_mk rfl (ex_trans hk0 (by (try show Ex _ _); repeat (first | (with_reducible exact ex_refl _) | (with_reducible assumption) | (with_reducible refine ex_drewL ?_) | (with_reducible refine ex_appR ?_ _) | (with_reducible refine ex_wx ?_ _) | (with_reducible refine ex_drew ?_) | (with_reducible refine ex_alloc ?_ _))))
      · obtain rfl : q = n2 := by omega
        have hNe : Hid (¬ (be = true ∧ bd = true) → ov = false) := Lib.hid fun h => HN2.out fun hC => h hC.2
        have hYe : Hid (be = true ∧ bd = true → ov = true) := Lib.hid fun h => HY2.out ⟨HQ.out, h⟩
        clear HM HM2 hlt hq HN2 HY2
        cases be with
        | false =>
          have ho : ov = false := hNe.out (fun h => by cases h.1)
          subst ho
          go_wp2_with (first | (go_at_call 42; (with_reducible refine (HE.out _ (ex_trans hk0 (by (try show Ex _ _); repeat (first | (with_reducible exact ex_refl _) | (with_reducible assumption) | (with_reducible refine ex_drewL ?_) | (with_reducible refine ex_appR ?_ _) | (with_reducible refine ex_wx ?_ _) | (with_reducible refine ex_drew ?_) | (with_reducible refine ex_alloc ?_ _))))).mono ?_); rintro e w2 ⟨rfl, X, rfl⟩))
          go_ret
          exact post_mk rfl (ex_trans hk0 (by (try show Ex _ _); repeat (first | (with_reducible exact ex_refl _) | (with_reducible assumption) | (with_reducible refine ex_drewL ?_) | (with_reducible refine ex_appR ?_ _) | (with_reducible refine ex_wx ?_ _) | (with_reducible refine ex_drew ?_) | (with_reducible refine ex_alloc ?_ _))))
        | true =>
          have ho : ov = bd := by
            cases bd with
            | true => exact hYe.out ⟨rfl, rfl⟩
            | false => exact hNe.out (fun h => by cases h.2)
          subst ho
          go_wp2_with (first | (go_at_call 42; (with_reducible refine (HE.out _ (ex_trans hk0 (by (try show Ex _ _); repeat (first | (with_reducible exact ex_refl _) | (with_reducible assumption) | (with_reducible refine ex_drewL ?_) | (with_reducible refine ex_appR ?_ _) | (with_reducible refine ex_wx ?_ _) | (with_reducible refine ex_drew ?_) | (with_reducible refine ex_alloc ?_ _))))).mono ?_); rintro e w2 ⟨rfl, X, rfl⟩) | (go_at_call 10; (with_reducible refine (HD.out _ (ex_trans hk0 (by (try show Ex _ _); repeat (first | (with_reducible exact ex_refl _) | (with_reducible assumption) | (with_reducible refine ex_drewL ?_) | (with_reducible refine ex_appR ?_ _) | (with_reducible refine ex_wx ?_ _) | (with_reducible refine ex_drew ?_) | (with_reducible refine ex_alloc ?_ _))))).mono ?_); rintro e w2 ⟨rfl, X, rfl⟩))
          go_ret
          exact post_mk rfl (ex_trans hk0 (by (try show Ex _ _); repeat (first | (with_reducible exact ex_refl _) | (with_reducible assumption) | (with_reducible refine ex_drewL ?_) | (with_reducible refine ex_appR ?_ _) | (with_reducible refine ex_wx ?_ _) | (with_reducible refine ex_drew ?_) | (with_reducible refine ex_alloc ?_ _))))
  · have ho : ov = false := HN.out fun h => hC h.1
    subst ho
    clear HN HY HE HD HM HM2
    have hb : (((n2 : Nat) : Int) != m2) = !(decide (n2 = m2)) := by
      by_cases h : n2 = m2
      · subst h; simp
      · rw [decide_eq_false h]
        have : ((n2 : Int) == m2) = false := beq_eq_false_iff_ne.2 (by omega)
        simp [bne, this]
    by_cases hpi : pi = pi'
    · subst hpi
      by_cases hpt : pt = pt'
      · subst hpt
        go_enter Tryd.func21, Tryd.ntmps21
        go_wp2
        all_goals (try (go_ret; exact post_mk rfl (by (try show Ex _ _); repeat (first | (with_reducible exact ex_refl _) | (with_reducible assumption) | (with_reducible refine ex_drewL ?_) | (with_reducible refine ex_appR ?_ _) | (with_reducible refine ex_wx ?_ _) | (with_reducible refine ex_drew ?_) | (with_reducible refine ex_alloc ?_ _)))))
        all_goals exfalso
        all_goals simp_all [ln_beq, ln_eqn]
      · skip
        go_enter Tryd.func21, Tryd.ntmps21
        go_wp2
        all_goals (try (go_ret; exact post_mk rfl (by (try show Ex _ _); repeat (first | (with_reducible exact ex_refl _) | (with_reducible assumption) | (with_reducible refine ex_drewL ?_) | (with_reducible refine ex_appR ?_ _) | (with_reducible refine ex_wx ?_ _) | (with_reducible refine ex_drew ?_) | (with_reducible refine ex_alloc ?_ _)))))
        all_goals exfalso
        all_goals simp_all [ln_beq, ln_eqn]
    · skip
      go_enter Tryd.func21, Tryd.ntmps21
      go_wp2
      all_goals (try (go_ret; exact post_mk rfl (by (try show Ex _ _); repeat (first | (with_reducible exact ex_refl _) | (with_reducible assumption) | (with_reducible refine ex_drewL ?_) | (with_reducible refine ex_appR ?_ _) | (with_reducible refine ex_wx ?_ _) | (with_reducible refine ex_drew ?_) | (with_reducible refine ex_alloc ?_ _)))))
      all_goals exfalso
      all_goals simp_all [ln_beq, ln_eqn]
end Go.Proofs.YtpcfkjeikhehaaaDoor
