import Derived.Test.YtpcfkjeikhehaaaDoorMTwo

/- A region that draws its order, over an elder world, where up to three things that make may come up at once: a tree of orders. Over whatever program. -/
set_option linter.unusedSimpArgs false
set_option linter.unusedVariables false
set_option maxRecDepth 20000
namespace Go.Proofs.YtpcfkjeikhehaaaDoor
open Go.RowKit
/-- A tree of orders: by index; by operation. -/
inductive Fj where
  | done
  | look (i : Nat) (r : Fj)
  | eff (i : Nat) (r : Fj)
  | fork (i : Nat) (x : Fj) (j : Nat) (y : Fj)
  | three (i : Nat) (x : Fj) (j : Nat) (y : Fj) (k : Nat) (z : Fj)
inductive FjO where
  | done
  | look (o : Oper) (r : FjO)
  | eff (o : Oper) (r : FjO)
  | fork (o : Oper) (x : FjO) (p : Oper) (y : FjO)
  | three (o : Oper) (x : FjO) (p : Oper) (y : FjO) (q : Oper) (z : FjO)
def Fj.len : Fj → Nat
  | .done => 0
  | .look _ r => r.len + 1
  | .eff _ r => r.len + 1
  | .fork _ x _ _ => x.len + 1
  | .three _ x _ _ _ _ => x.len + 1
def Fj.fits (n : Nat) : Fj → Bool
  | .done => true
  | .look i r => decide (i < n) && r.fits n
  | .eff i r => decide (i < n) && r.fits n
  | .fork i x j y => decide (i < n) && decide (j < n) && (x.len == y.len) && x.fits n && y.fits n
  | .three i x j y k z => decide (i < n) && decide (j < n) && decide (k < n) && (x.len == y.len) && (x.len == z.len) && x.fits n && y.fits n && z.fits n
def Fj.ops (l : List Oper) : Fj → FjO
  | .done => .done
  | .look i r => .look (nth l i) (r.ops l)
  | .eff i r => .eff (nth l i) (r.ops l)
  | .fork i x j y => .fork (nth l i) (x.ops l) (nth l j) (y.ops l)
  | .three i x j y k z => .three (nth l i) (x.ops l) (nth l j) (y.ops l) (nth l k) (z.ops l)
section
variable {P : Program} {ops : Array Oper} {Q : Exit → Act → World → Prop} {md : Region.Mode}
def wpForkJ (P : Program) (ops : Array Oper) (Q : Exit → Act → World → Prop) (A : World) : FjO → Act → World → Prop
  | .done, a, w => Q .normal a w
  | .look o r, a, w => if Region.wanted o (yielded ops a.tmps) then o.quiet P a (Ex A) (fun a' => wpForkJ P ops Q A r a' w) else wpForkJ P ops Q A r (a.put o.dst undef) w
  | .eff o r, a, w => effT P ops Q A o (wpForkJ P ops Q A r) a w
  | .fork o x p y, a, w => effT P ops Q A o (wpForkJ P ops Q A x) a w ∧ effT P ops Q A p (wpForkJ P ops Q A y) a w
  | .three o x p y q z, a, w => effT P ops Q A o (wpForkJ P ops Q A x) a w ∧ effT P ops Q A p (wpForkJ P ops Q A y) a w ∧ effT P ops Q A q (wpForkJ P ops Q A z) a w
theorem wpForkJ_look {A : World} {o : Oper} {r : FjO} {a : Act} {w : World}
    (h : wpQuiet P ops (fun w' => ∃ X, w' = wx A X) (fun a' => wpForkJ P ops Q A r a' w) [o] a) : wpForkJ P ops Q A (.look o r) a w := h
theorem wpForkJ_eff {A : World} {o : Oper} {r : FjO} {a : Act} {w : World} (h : effT P ops Q A o (wpForkJ P ops Q A r) a w) : wpForkJ P ops Q A (.eff o r) a w := h
theorem wpForkJ_fork {A : World} {o p : Oper} {x y : FjO} {a : Act} {w : World} (h : effT P ops Q A o (wpForkJ P ops Q A x) a w) (k : effT P ops Q A p (wpForkJ P ops Q A y) a w) : wpForkJ P ops Q A (.fork o x p y) a w := ⟨h, k⟩
theorem wpForkJ_three {A : World} {o p q : Oper} {x y z : FjO} {a : Act} {w : World} (h : effT P ops Q A o (wpForkJ P ops Q A x) a w) (k : effT P ops Q A p (wpForkJ P ops Q A y) a w) (m : effT P ops Q A q (wpForkJ P ops Q A z) a w) : wpForkJ P ops Q A (.three o x p y q z) a w := ⟨h, k, m⟩
theorem wpForkJ_nil {A : World} {a : Act} {w : World} (h : Q .normal a w) : wpForkJ P ops Q A .done a w := h
def forkJOk (md : Region.Mode) (ops : Array Oper) : Fj → Array Bool → Bool
  | .done, listed => Region.ready md ops listed == []
  | .look i r, listed => (Region.ready md ops listed).contains i && (Region.free md ops listed i && ((ops[i]?).map (fun o => isLook o.op)).getD false) && forkJOk md ops r (listed.setIfInBounds i true)
  | .eff i r, listed => Region.ready md ops listed == [i] && forkJOk md ops r (listed.setIfInBounds i true)
  | .three i x j y k z, listed => Region.ready md ops listed == [i, j, k] && forkJOk md ops x (listed.setIfInBounds i true) && forkJOk md ops y (listed.setIfInBounds j true) && forkJOk md ops z (listed.setIfInBounds k true)
  | .fork i x j y, listed => Region.ready md ops listed == [i, j] && forkJOk md ops x (listed.setIfInBounds i true) && forkJOk md ops y (listed.setIfInBounds j true)
theorem wpAnyH_forkJ {A : World} {l : List Oper} (hl : l.toArray = ops) (hsel : Region.noSelect ops = true) (hQ : ∀ c a d v w, Q (.panic c) (a.put d v) w → Q (.panic c) a w) :
    ∀ (t : Fj) (listed : Array Bool) (a : Act) (w : World), t.fits l.length = true → forkJOk md ops t listed = true → Ex A w →
      wpForkJ P ops Q A (t.ops l) a w → wpAnyH P md ops Q (Ex A) t.len listed a w := by
  subst hl
  intro t
  induction t with
  | done => exact fun listed a w _ hB hA h => wpAnyH_done (by simpa [forkJOk] using hB) h _
  | look i r ih =>
    intro listed a w hF hB hA h
    simp only [Fj.fits, Bool.and_eq_true, decide_eq_true_eq] at hF
    simp only [forkJOk, Bool.and_eq_true] at hB
    obtain ⟨⟨hr, hf, hk⟩, hB'⟩ := hB
    have ho := nth_get l i hF.1
    have hl' : isLook (nth l i).op = true := by simpa [ho] using hk
    have hst : ∃ v, YieldsIf P l.toArray (Ex A) (nth l i) v a ∧ wpForkJ P l.toArray Q A (r.ops l) (a.put (nth l i).dst v) w := by
      unfold Fj.ops wpForkJ at h
      by_cases hw : Region.wanted (nth l i) (yielded l.toArray a.tmps) = true
      · rw [if_pos hw] at h
        obtain ⟨v, h1, h2⟩ := h
        refine ⟨v, .inl ⟨hw, fun w' hw' => ?_⟩, h2⟩
        have h3 := h1 w' hw'
        unfold Oper.quietAt at h3
        cases hrun : (execOp a.eval (nth l i)).run P w' with
        | ok x w1 =>
          obtain ⟨u, rfl⟩ := look_value hl' a.eval w' x w1 hrun
          rw [hrun] at h3
          simp only [Oper.quietUpon] at h3
          rw [h3.1, h3.2]
        | halt x w1 => rw [hrun] at h3; exact h3.elim
      · rw [if_neg hw] at h
        exact ⟨undef, .inr ⟨by simpa using hw, rfl⟩, h⟩
    obtain ⟨v, hy, hK⟩ := hst
    exact wpAnyH_take ho hsel hf hr (fun c a w => hQ c a _ _ w) hy hA (ih _ _ _ hF.2 hB' hA hK)
  | eff i r ih =>
    intro listed a w hF hB hA h
    simp only [Fj.fits, Bool.and_eq_true, decide_eq_true_eq] at hF
    simp only [forkJOk, Bool.and_eq_true, beq_iff_eq] at hB
    obtain ⟨hk, hB'⟩ := hB
    refine wpAnyH_all hk (by simp) fun j hj => ?_
    have hji : j = i := by simpa using hj
    subst hji
    exact wpOp_mono (fun a' w' h' => ⟨h'.1, ih _ _ _ hF.2 hB' h'.1 h'.2⟩) (effT_op (nth_get l j hF.1) hA h)
  | fork i x j y ihx ihy =>
    intro listed a w hF hB hA h
    simp only [Fj.fits, Bool.and_eq_true, decide_eq_true_eq, beq_iff_eq] at hF
    obtain ⟨⟨⟨⟨hi, hj⟩, hlen⟩, hfx⟩, hfy⟩ := hF
    simp only [forkJOk, Bool.and_eq_true, beq_iff_eq] at hB
    obtain ⟨⟨hk, hBx⟩, hBy⟩ := hB
    refine wpAnyH_all hk (by simp) fun q hq => ?_
    have hq2 : q = i ∨ q = j := by simpa using hq
    rcases hq2 with rfl | rfl
    · exact wpOp_mono (fun a' w' h' => ⟨h'.1, ihx _ _ _ hfx hBx h'.1 h'.2⟩) (effT_op (nth_get l q hi) hA h.1)
    · refine wpOp_mono (fun a' w' h' => ⟨h'.1, ?_⟩) (effT_op (nth_get l q hj) hA h.2)
      show wpAnyH P md l.toArray Q (Ex A) x.len _ a' w'
      rw [hlen]
      exact ihy _ _ _ hfy hBy h'.1 h'.2
  | three i x j y k z ihx ihy ihz =>
    intro listed a w hF hB hA h
    simp only [Fj.fits, Bool.and_eq_true, decide_eq_true_eq, beq_iff_eq] at hF
    obtain ⟨⟨⟨⟨⟨⟨⟨hi, hj⟩, hk'⟩, hlen⟩, hlen2⟩, hfx⟩, hfy⟩, hfz⟩ := hF
    simp only [forkJOk, Bool.and_eq_true, beq_iff_eq] at hB
    obtain ⟨⟨⟨hk, hBx⟩, hBy⟩, hBz⟩ := hB
    refine wpAnyH_all hk (by simp) fun q hq => ?_
    have hq2 : q = i ∨ q = j ∨ q = k := by simpa using hq
    rcases hq2 with rfl | rfl | rfl
    · exact wpOp_mono (fun a' w' h' => ⟨h'.1, ihx _ _ _ hfx hBx h'.1 h'.2⟩) (effT_op (nth_get l q hi) hA h.1)
    · refine wpOp_mono (fun a' w' h' => ⟨h'.1, ?_⟩) (effT_op (nth_get l q hj) hA h.2.1)
      show wpAnyH P md l.toArray Q (Ex A) x.len _ a' w'
      rw [hlen]
      exact ihy _ _ _ hfy hBy h'.1 h'.2
    · refine wpOp_mono (fun a' w' h' => ⟨h'.1, ?_⟩) (effT_op (nth_get l q hk') hA h.2.2)
      show wpAnyH P md l.toArray Q (Ex A) x.len _ a' w'
      rw [hlen2]
      exact ihz _ _ _ hfz hBz h'.1 h'.2
/-- **A tree of orders serves every order.** -/
theorem wp_region_forkJ {id : Nat} {a : Act} {w : World} {l : List Oper} (A : World) (t : Fj) (hA : Ex A w.drew) (hm : P.follows .mixedOrders = true)
    (hB : (Region.noSelect l.toArray && t.len == l.toArray.size && t.fits l.length && forkJOk .any l.toArray t (Array.replicate l.toArray.size false)) = true)
    (hQ : ∀ c a d v w, Q (.panic c) (a.put d v) w → Q (.panic c) a w)
    (h : wpForkJ P l.toArray Q A (t.ops l) a w.drew) : (Code.region id l.toArray true).wp P Q a w := by
  simp only [Bool.and_eq_true, beq_iff_eq] at hB
  obtain ⟨⟨⟨hsel, hlen⟩, hall⟩, hseq⟩ := hB
  refine wp_region_held (S := Ex A) hm ?_
  have H := wpAnyH_forkJ (md := .any) (P := P) (A := A) rfl hsel hQ t (Array.replicate l.toArray.size false) a w.drew hall hseq hA h
  rwa [hlen] at H
end
/-- What holds in the midst: the rest is walked once. -/
theorem wp_mid {P : Program} {c : Code} {K : Act → World → Prop} {Q : Exit → Act → World → Prop} {a : Act} {w : World} (R : Act → Act → World → Prop)
    (h1 : c.wp P (Exit.then (R a) Q) a w) (h2 : ∀ a' w', R a a' w' → Exit.then K Q .normal a' w') : c.wp P (Exit.then K Q) a w := by
  refine Code.wp_mono (fun x a' w' h => ?_) h1
  cases x <;> first | exact h2 _ _ h | exact h
end Go.Proofs.YtpcfkjeikhehaaaDoor
