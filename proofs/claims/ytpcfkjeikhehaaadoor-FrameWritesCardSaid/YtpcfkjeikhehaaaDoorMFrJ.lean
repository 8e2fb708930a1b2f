import Derived.Test.YtpcfkjeikhehaaaDoorMFrCl

/- Are two messages one: Same of the package frame. -/
set_option linter.unusedSimpArgs false
set_option linter.unusedVariables false
set_option maxRecDepth 20000
namespace Go.Proofs.YtpcfkjeikhehaaaDoor
open Go.RowKit
theorem ln_beq (x y : UInt64) : (ln x == ln y) = decide (x = y) := by
  rw [Bool.eq_iff_iff, beq_iff_eq, decide_eq_true_eq]
  exact ⟨fun h => ln_inj h, fun h => by rw [h]⟩
theorem ln_eqn (x y : UInt64) : (ln x = ln y) = (x = y) := propext ⟨fun h => ln_inj h, fun h => by rw [h]⟩
def sameEn (x y : En) : Bool := decide (x.1 = y.1) && decide (x.2.1 = y.2.1) && decide (x.2.2 = y.2.2)
theorem sameEn_iff (x y : En) : sameEn x y = decide (x = y) := by
  obtain ⟨a, b, c⟩ := x
  obtain ⟨a', b', c'⟩ := y
  unfold sameEn
  rw [Bool.eq_iff_iff]
  simp [Prod.ext_iff, and_assoc]
set_option maxHeartbeats 1000000 in
theorem same1_any (x y : En) (dv du : Value) (w : World) (hx : SlT w dv x.2.2) (hy : SlT w du y.2.2) :
    Calls Tryd.prog 46 #[.agg #[L x.1, I x.2.1, dv], .agg #[L y.1, I y.2.1, du]] w (Post w (.bool (decide (x = y)))) := by
  rw [← sameEn_iff]
  unfold sameEn
  obtain ⟨a, b, c⟩ := x
  obtain ⟨a', b', c'⟩ := y
  simp only at hx hy ⊢
  have HE := Lib.hid (fun w' (k : Ex w w') => octEqual_any c c' dv du w' (hx.ex k) (hy.ex k))
  generalize decide (c = c') = bc at *
  go_enter Tryd.func46, Tryd.ntmps46
  go_wp2_with (go_at_call 43; (with_reducible refine (HE.out _ (by (try show Ex _ _); repeat (first | (with_reducible exact ex_refl _) | (with_reducible assumption) | (with_reducible refine ex_drewL ?_) | (with_reducible refine ex_appR ?_ _) | (with_reducible refine ex_wx ?_ _) | (with_reducible refine ex_drew ?_) | (with_reducible refine ex_alloc ?_ _)))).mono ?_); rintro e w2 ⟨rfl, X, rfl⟩)
  all_goals (go_ret; refine post_mk (congrArg (fun b => Ending.returned (.bool b)) ?_) (by (try show Ex _ _); repeat (first | (with_reducible exact ex_refl _) | (with_reducible assumption) | (with_reducible refine ex_drewL ?_) | (with_reducible refine ex_appR ?_ _) | (with_reducible refine ex_wx ?_ _) | (with_reducible refine ex_drew ?_) | (with_reducible refine ex_alloc ?_ _))); simp_all [ln_beq, ln_eqn])
theorem enAt_ext {l m : List En} (hl : l.length = m.length) (h : ∀ i, i < l.length → enAt l i = enAt m i) : l = m := by
  apply List.ext_getElem?
  intro i
  by_cases hi : i < l.length
  · rw [enAt_get hi, enAt_get (by omega), h i hi]
  · rw [List.getElem?_eq_none (by omega), List.getElem?_eq_none (by omega)]
set_option maxHeartbeats 2000000 in
theorem equalE_any (l m : List En) (v u : Value) (w : World) (hs : SlG w v l) (ht : SlG w u m) :
    Calls Tryd.prog 45 #[v, u, .func (.func 46) #[] #[]] w (Post w (.bool (decide (l = m)))) := by
  obtain ⟨a, c, rfl, hc, hcm, _, hs⟩ := hs.out
  obtain ⟨b, d, rfl, hd, hdm, _, ht⟩ := ht.out
  by_cases hlm : l.length = m.length
  · have HS : Hid (∀ W, Ex w W → ∀ i, i < m.length → ∃ g off da dc, a = some ⟨g, off, none⟩ ∧ g < W.heap.size ∧ W.cell? ⟨g, off + i * 3, none⟩ = some (L (enAt l i).1) ∧ W.cell? ⟨g, off + i * 3 + 1, none⟩ = some (I (enAt l i).2.1) ∧
      W.cell? ⟨g, off + i * 3 + 2, none⟩ = some (.slice da (enAt l i).2.2.length dc) ∧ SlT W (.slice da (enAt l i).2.2.length dc) (enAt l i).2.2) := Lib.hid fun W k i hi => (hs.ex k).row (by omega)
    have HT : Hid (∀ W, Ex w W → ∀ i, i < m.length → ∃ g off da dc, b = some ⟨g, off, none⟩ ∧ g < W.heap.size ∧ W.cell? ⟨g, off + i * 3, none⟩ = some (L (enAt m i).1) ∧ W.cell? ⟨g, off + i * 3 + 1, none⟩ = some (I (enAt m i).2.1) ∧
      W.cell? ⟨g, off + i * 3 + 2, none⟩ = some (.slice da (enAt m i).2.2.length dc) ∧ SlT W (.slice da (enAt m i).2.2.length dc) (enAt m i).2.2) := Lib.hid fun W k i hi => (ht.ex k).row hi
    have H1 : Hid ((∀ i, i < m.length → enAt l i = enAt m i) → decide (l = m) = true) := Lib.hid fun h => decide_eq_true (enAt_ext hlm (by rw [hlm]; exact h))
    have H0 : Hid (∀ i, i < m.length → enAt l i ≠ enAt m i → decide (l = m) = false) := Lib.hid fun i hi h => decide_eq_false fun e => h (by rw [e])
    rw [hlm] at hc ⊢
    generalize decide (l = m) = ov at H0 H1 ⊢
    generalize m.length = n at *
    generalize enAt l = p at HS H0 H1
    generalize enAt m = q at HT H0 H1
    clear hlm hs ht
    unfold maxLen at hcm hdm
    go_enter Tryd.func45, Tryd.ntmps45
    go_wp2
    go_loopw [17] (fun i wr => ∃ k : Nat, k ≤ n ∧ i = I k ∧ Hid (∀ i, i < k → p i = q i) ∧ Ex w wr) (fun i _ => n - (intOf i).toNat)
    case atStart => exact ⟨0, by omega, rfl, Lib.hid (fun i hi => absurd hi (by omega)), (by (try show Ex _ _); repeat (first | (with_reducible exact ex_refl _) | (with_reducible assumption) | (with_reducible refine ex_drewL ?_) | (with_reducible refine ex_appR ?_ _) | (with_reducible refine ex_wx ?_ _) | (with_reducible refine ex_drew ?_) | (with_reducible refine ex_alloc ?_ _)))⟩
    case round =>
      obtain ⟨k, hk, rfl, HK, kr⟩ := hrel
      by_cases hlt : k < n
      · obtain ⟨g, off, da, dc, rfl, r1, r2, r3, r4, r5⟩ := HS.out wr kr k hlt
        obtain ⟨g', off', ea, ec, rfl, s1, s2, s3, s4, s5⟩ := HT.out wr kr k hlt
        have H0k := Lib.hid (H0.out k hlt)
        have HKn : Hid (p k = q k → ∀ i, i < k + 1 → p i = q i) := Lib.hid fun h i hi => by
          rcases Nat.lt_or_ge i k with h2 | h2
          · exact HK.out i h2
          · obtain rfl : i = k := by omega
            exact h
        have HC := Lib.hid (fun w' (K : Ex wr w') => same1_any (p k) (q k) _ _ w' (r5.ex K) (s5.ex K))
        clear H0 H1 HS HT HK r5 s5
        generalize p k = pk at *
        generalize q k = qk at *
        by_cases he : pk = qk
        · have HK3 := Lib.hid (HKn.out he)
          rw [decide_eq_true he] at HC
          clear HKn H0k he
          go_wp2_with (go_at_call 46; (with_reducible refine (HC.out _ (by (try show Ex _ _); repeat (first | (with_reducible exact ex_refl _) | (with_reducible assumption) | (with_reducible refine ex_drewL ?_) | (with_reducible refine ex_appR ?_ _) | (with_reducible refine ex_wx ?_ _) | (with_reducible refine ex_drew ?_) | (with_reducible refine ex_alloc ?_ _)))).mono ?_); rintro e w2 ⟨rfl, X, rfl⟩)
          refine ⟨⟨k + 1, by omega, by go_num, HK3, ex_trans kr (by (try show Ex _ _); repeat (first | (with_reducible exact ex_refl _) | (with_reducible assumption) | (with_reducible refine ex_drewL ?_) | (with_reducible refine ex_appR ?_ _) | (with_reducible refine ex_wx ?_ _) | (with_reducible refine ex_drew ?_) | (with_reducible refine ex_alloc ?_ _)))⟩, by simp [intOf]; omega⟩
        · obtain rfl := H0k.out he
          rw [decide_eq_false he] at HC
          clear HKn H0k he
          go_wp2_with (go_at_call 46; (with_reducible refine (HC.out _ (by (try show Ex _ _); repeat (first | (with_reducible exact ex_refl _) | (with_reducible assumption) | (with_reducible refine ex_drewL ?_) | (with_reducible refine ex_appR ?_ _) | (with_reducible refine ex_wx ?_ _) | (with_reducible refine ex_drew ?_) | (with_reducible refine ex_alloc ?_ _)))).mono ?_); rintro e w2 ⟨rfl, X, rfl⟩)
          go_ret
          exact post_mk rfl (ex_trans kr (by (try show Ex _ _); repeat (first | (with_reducible exact ex_refl _) | (with_reducible assumption) | (with_reducible refine ex_drewL ?_) | (with_reducible refine ex_appR ?_ _) | (with_reducible refine ex_wx ?_ _) | (with_reducible refine ex_drew ?_) | (with_reducible refine ex_alloc ?_ _))))
      · obtain rfl : k = n := by omega
        obtain rfl := H1.out HK.out
        clear hlt hk H0 HS HT
        go_wp2
        go_ret
        exact post_mk rfl (by (try show Ex _ _); repeat (first | (with_reducible exact ex_refl _) | (with_reducible assumption) | (with_reducible refine ex_drewL ?_) | (with_reducible refine ex_appR ?_ _) | (with_reducible refine ex_wx ?_ _) | (with_reducible refine ex_drew ?_) | (with_reducible refine ex_alloc ?_ _)))
  · have e1 : decide (l = m) = false := decide_eq_false fun e => hlm (by rw [e])
    rw [e1]
    have e2 : ((l.length : Int) == m.length) = false := beq_eq_false_iff_ne.2 (by omega)
    generalize l.length = n1 at *
    generalize m.length = n2 at *
    clear hs ht e1
    go_enter Tryd.func45, Tryd.ntmps45
    go_wp2
    go_ret
    exact post_mk rfl (by (try show Ex _ _); repeat (first | (with_reducible exact ex_refl _) | (with_reducible assumption) | (with_reducible refine ex_drewL ?_) | (with_reducible refine ex_appR ?_ _) | (with_reducible refine ex_wx ?_ _) | (with_reducible refine ex_drew ?_) | (with_reducible refine ex_alloc ?_ _)))
theorem eqIn_u64 (d : Nat) (a b : UInt64) (w : World) : (Op.equalIn (d + 1) 25 (L a) (L b)).run Tryd.prog w = .ok (ln a == ln b) w := by
  unfold Op.equalIn
  simp [run_underlying Tryd.underlying25]
theorem part_u64 (zs : Array Value) (i : Nat) (s : UInt64) (h : zs[i]? = some (L s)) (w : World) : (part 25 zs i).run Tryd.prog w = .ok (L s) w := by
  obtain ⟨j, hj, hs⟩ : ∃ j, Tryd.prog.info? 25 = some j ∧ j.size = 1 := by
    have hi : (Tryd.prog.info? 25).map (·.size) = some 1 := by kernel_rfl
    obtain ⟨j, h1, h2⟩ := Option.map_eq_some_iff.1 hi
    exact ⟨j, h1, h2⟩
  have hrow : (isAgg 25).run Tryd.prog w = .ok false w := by simp [isAgg, run_underlying Tryd.underlying25]
  have hce : Tryd.prog.cellsOf 25 = 1 := by unfold Program.cellsOf; rw [hj]; simp [hs]
  simp [part, run_sizeOf w hj, hce, hrow, h]
theorem eqIn_at (a b c d : UInt64) (w : World) : (Op.equal 35 (.agg #[L a, L b]) (.agg #[L c, L d])).run Tryd.prog w = .ok ((ln a == ln c) && (ln b == ln d)) w := by
  unfold Op.equal Op.maxDepth
  unfold Op.equalIn
  have hst : Tryd.prog.stoodInHeld 35 = false := by kernel_rfl
  have p0 : ∀ (x y : UInt64) (w : World), (part 25 #[L x, L y] 0).run Tryd.prog w = .ok (L x) w := fun x y w => part_u64 _ _ _ rfl w
  have p1 : ∀ (x y : UInt64) (w : World), (part 25 #[L x, L y] 1).run Tryd.prog w = .ok (L y) w := fun x y w => part_u64 _ _ _ rfl w
  have e0 : ∀ (x y : UInt64) (w : World), (Op.equalIn 9999 25 (L x) (L y)).run Tryd.prog w = .ok (ln x == ln y) w := fun x y w => eqIn_u64 9998 x y w
  simp [run_underlying Tryd.underlying35, hst, p0, p1, e0]
  by_cases h1 : ln a = ln c <;> by_cases h2 : ln b = ln d <;> simp [h1, h2]
@[go_sem high] theorem eql_at (a b c d : UInt64) (w : World) : (binOp .eql 35 (.agg #[.int .u64 (ln a), .int .u64 (ln b)]) (.agg #[.int .u64 (ln c), .int .u64 (ln d)])).run Tryd.prog w = .ok (.bool (decide (a = c) && decide (b = d))) w := by
  rw [run_eql_struct]
  have := eqIn_at a b c d w
  unfold Op.equal Op.maxDepth at this
  rw [← ln_beq, ← ln_beq]
  rw [this]
  rfl
@[go_sem high] theorem neq_at (a b c d : UInt64) (w : World) : (binOp .neq 35 (.agg #[.int .u64 (ln a), .int .u64 (ln b)]) (.agg #[.int .u64 (ln c), .int .u64 (ln d)])).run Tryd.prog w = .ok (.bool (!(decide (a = c) && decide (b = d)))) w := by
  rw [run_neq_struct]
  have := eqIn_at a b c d w
  unfold Op.equal Op.maxDepth at this
  rw [← ln_beq, ← ln_beq]
  rw [this]
  rfl
def bAnd5 (a b c d e : Bool) : Bool := a && b && c && d && e
set_option maxHeartbeats 4000000 in
theorem same_any (x y : Ms) (v u : Value) (w : World) (hx : MsV w v x) (hy : MsV w u y) :
    Calls Tryd.prog 22 #[v, u] w (Post w (.bool (sameM x y))) := by
  obtain ⟨ev, mv, dv, rfl, x1, x2, x3⟩ := hx.out
  obtain ⟨eu, mu, du, rfl, y1, y2, y3⟩ := hy.out
  have HE := Lib.hid (fun w' (k : Ex w w') => equalE_any x.es y.es ev eu w' (x1.ex k) (y1.ex k))
  have HI := Lib.hid (fun w' (k : Ex w w') => equalI_any x.mb y.mb mv mu w' (x2.ex k) (y2.ex k))
  have HD := Lib.hid (fun w' (k : Ex w w') => octEqual_any x.da y.da dv du w' (x3.ex k) (y3.ex k))
  obtain ⟨a1, c1, rfl, _⟩ := id x1.out
  obtain ⟨a2, c2, rfl, _⟩ := id x2.out
  obtain ⟨a3, c3, rfl, _⟩ := id x3.out
  obtain ⟨b1, d1, rfl, _⟩ := id y1.out
  obtain ⟨b2, d2, rfl, _⟩ := id y2.out
  obtain ⟨b3, d3, rfl, _⟩ := id y3.out
  unfold sameM
  clear x1 x2 x3 y1 y2 y3 hx hy
  generalize decide (x.es = y.es) = be at *
  generalize decide (x.mb = y.mb) = bi at *
  generalize decide (x.da = y.da) = bd at *
  generalize x.es.length = n1 at *
  generalize x.mb.length = n2 at *
  generalize x.da.length = n3 at *
  generalize y.es.length = m1 at *
  generalize y.mb.length = m2 at *
  generalize y.da.length = m3 at *
  obtain ⟨kd, fr, to, tm, pi, pt, es, cm, ok, mb, da⟩ := x
  obtain ⟨kd', fr', to', tm', pi', pt', es', cm', ok', mb', da'⟩ := y
  simp only
  go_enter Tryd.func22, Tryd.ntmps22
  go_wp2_with (first | (go_at_call 43; (with_reducible refine (HD.out _ (by (try show Ex _ _); repeat (first | (with_reducible exact ex_refl _) | (with_reducible assumption) | (with_reducible refine ex_drewL ?_) | (with_reducible refine ex_appR ?_ _) | (with_reducible refine ex_wx ?_ _) | (with_reducible refine ex_drew ?_) | (with_reducible refine ex_alloc ?_ _)))).mono ?_); rintro e w2 ⟨rfl, X, rfl⟩; clear HD) | (go_at_call 44; (with_reducible refine (HI.out _ (by (try show Ex _ _); repeat (first | (with_reducible exact ex_refl _) | (with_reducible assumption) | (with_reducible refine ex_drewL ?_) | (with_reducible refine ex_appR ?_ _) | (with_reducible refine ex_wx ?_ _) | (with_reducible refine ex_drew ?_) | (with_reducible refine ex_alloc ?_ _)))).mono ?_); rintro e w2 ⟨rfl, X, rfl⟩; clear HI) | (go_at_call 45; (with_reducible refine (HE.out _ (by (try show Ex _ _); repeat (first | (with_reducible exact ex_refl _) | (with_reducible assumption) | (with_reducible refine ex_drewL ?_) | (with_reducible refine ex_appR ?_ _) | (with_reducible refine ex_wx ?_ _) | (with_reducible refine ex_drew ?_) | (with_reducible refine ex_alloc ?_ _)))).mono ?_); rintro e w2 ⟨rfl, X, rfl⟩; clear HE))
  all_goals (go_ret; refine post_mk (congrArg (fun b => Ending.returned (.bool b)) ?_) (by (try show Ex _ _); repeat (first | (with_reducible exact ex_refl _) | (with_reducible assumption) | (with_reducible refine ex_drewL ?_) | (with_reducible refine ex_appR ?_ _) | (with_reducible refine ex_wx ?_ _) | (with_reducible refine ex_drew ?_) | (with_reducible refine ex_alloc ?_ _))); simp_all [ln_beq, ln_eqn])
end Go.Proofs.YtpcfkjeikhehaaaDoor
