import Derived.Test.YtcdocklbpfdmeaaDoorMTwo

/- A region that draws its order, over an elder world, where what makes may come up in several orders: a tree of orders. Over whatever program. -/
set_option linter.unusedSimpArgs false
set_option linter.unusedVariables false
set_option maxRecDepth 20000
namespace Go.Proofs.YtcdocklbpfdmeaaDoor
open Go.RowKit
/-- A tree of orders: by index; by operation. -/
inductive Fk where
  | done
  | look (i : Nat) (r : Fk)
  | eff (i : Nat) (r : Fk)
  | fork (i : Nat) (x : Fk) (j : Nat) (y : Fk)
inductive FkO where
  | done
  | look (o : Oper) (r : FkO)
  | eff (o : Oper) (r : FkO)
  | fork (o : Oper) (x : FkO) (p : Oper) (y : FkO)
def Fk.len : Fk → Nat
  | .done => 0
  | .look _ r => r.len + 1
  | .eff _ r => r.len + 1
  | .fork _ x _ _ => x.len + 1
def Fk.fits (n : Nat) : Fk → Bool
  | .done => true
  | .look i r => decide (i < n) && r.fits n
  | .eff i r => decide (i < n) && r.fits n
  | .fork i x j y => decide (i < n) && decide (j < n) && (x.len == y.len) && x.fits n && y.fits n
def Fk.ops (l : List Oper) : Fk → FkO
  | .done => .done
  | .look i r => .look (nth l i) (r.ops l)
  | .eff i r => .eff (nth l i) (r.ops l)
  | .fork i x j y => .fork (nth l i) (x.ops l) (nth l j) (y.ops l)
section
variable {P : Program} {ops : Array Oper} {Q : Exit → Act → World → Prop} {md : Region.Mode}
def wpFork (P : Program) (ops : Array Oper) (Q : Exit → Act → World → Prop) (A : World) : FkO → Act → World → Prop
  | .done, a, w => Q .normal a w
  | .look o r, a, w => if Region.wanted o (yielded ops a.tmps) then o.quiet P a (Ex A) (fun a' => wpFork P ops Q A r a' w) else wpFork P ops Q A r (a.put o.dst undef) w
  | .eff o r, a, w => effT P ops Q A o (wpFork P ops Q A r) a w
  | .fork o x p y, a, w => effT P ops Q A o (wpFork P ops Q A x) a w ∧ effT P ops Q A p (wpFork P ops Q A y) a w
theorem wpFork_look {A : World} {o : Oper} {r : FkO} {a : Act} {w : World}
    (h : wpQuiet P ops (fun w' => ∃ X, w' = wx A X) (fun a' => wpFork P ops Q A r a' w) [o] a) : wpFork P ops Q A (.look o r) a w := h
theorem wpFork_eff {A : World} {o : Oper} {r : FkO} {a : Act} {w : World} (h : effT P ops Q A o (wpFork P ops Q A r) a w) : wpFork P ops Q A (.eff o r) a w := h
theorem wpFork_fork {A : World} {o p : Oper} {x y : FkO} {a : Act} {w : World} (h : effT P ops Q A o (wpFork P ops Q A x) a w) (k : effT P ops Q A p (wpFork P ops Q A y) a w) : wpFork P ops Q A (.fork o x p y) a w := ⟨h, k⟩
theorem wpFork_nil {A : World} {a : Act} {w : World} (h : Q .normal a w) : wpFork P ops Q A .done a w := h
def forkOk (md : Region.Mode) (ops : Array Oper) : Fk → Array Bool → Bool
  | .done, listed => Region.ready md ops listed == []
  | .look i r, listed => (Region.ready md ops listed).contains i && (Region.free md ops listed i && ((ops[i]?).map (fun o => isLook o.op)).getD false) && forkOk md ops r (listed.setIfInBounds i true)
  | .eff i r, listed => Region.ready md ops listed == [i] && forkOk md ops r (listed.setIfInBounds i true)
  | .fork i x j y, listed => Region.ready md ops listed == [i, j] && forkOk md ops x (listed.setIfInBounds i true) && forkOk md ops y (listed.setIfInBounds j true)
theorem wpAnyH_fork {A : World} {l : List Oper} (hl : l.toArray = ops) (hsel : Region.noSelect ops = true) (hQ : ∀ c a d v w, Q (.panic c) (a.put d v) w → Q (.panic c) a w) :
    ∀ (t : Fk) (listed : Array Bool) (a : Act) (w : World), t.fits l.length = true → forkOk md ops t listed = true → Ex A w →
      wpFork P ops Q A (t.ops l) a w → wpAnyH P md ops Q (Ex A) t.len listed a w := by
  subst hl
  intro t
  induction t with
  | done => exact fun listed a w _ hB hA h => wpAnyH_done (by simpa [forkOk] using hB) h _
  | look i r ih =>
    intro listed a w hF hB hA h
    simp only [Fk.fits, Bool.and_eq_true, decide_eq_true_eq] at hF
    simp only [forkOk, Bool.and_eq_true] at hB
    obtain ⟨⟨hr, hf, hk⟩, hB'⟩ := hB
    have ho := nth_get l i hF.1
    have hl' : isLook (nth l i).op = true := by simpa [ho] using hk
    have hst : ∃ v, YieldsIf P l.toArray (Ex A) (nth l i) v a ∧ wpFork P l.toArray Q A (r.ops l) (a.put (nth l i).dst v) w := by
      unfold Fk.ops wpFork at h
      by_cases hw : Region.wanted (nth l i) (yielded l.toArray a.tmps) = true
      · rw [if_pos hw] at h
        obtain ⟨v, h1, h2⟩ := h
        refine ⟨v, .inl ⟨hw, fun w' hw' => ?_⟩, h2⟩
        have h3 := h1 w' hw'
        unfold Oper.quietAt at h3
        cases hrun : (execOp a.eval (nth l i)).run P w' with
        | ok x w1 =>
          obtain ⟨u, rfl⟩ := look_value hl' a.eval w' x w1 hrun
          rw [hrun] at h3
          simp only [Oper.quietUpon] at h3
          rw [h3.1, h3.2]
        | halt x w1 => rw [hrun] at h3; exact h3.elim
      · rw [if_neg hw] at h
        exact ⟨undef, .inr ⟨by simpa using hw, rfl⟩, h⟩
    obtain ⟨v, hy, hK⟩ := hst
    exact wpAnyH_take ho hsel hf hr (fun c a w => hQ c a _ _ w) hy hA (ih _ _ _ hF.2 hB' hA hK)
  | eff i r ih =>
    intro listed a w hF hB hA h
    simp only [Fk.fits, Bool.and_eq_true, decide_eq_true_eq] at hF
    simp only [forkOk, Bool.and_eq_true, beq_iff_eq] at hB
    obtain ⟨hk, hB'⟩ := hB
    refine wpAnyH_all hk (by simp) fun j hj => ?_
    have hji : j = i := by simpa using hj
    subst hji
    exact wpOp_mono (fun a' w' h' => ⟨h'.1, ih _ _ _ hF.2 hB' h'.1 h'.2⟩) (effT_op (nth_get l j hF.1) hA h)
  | fork i x j y ihx ihy =>
    intro listed a w hF hB hA h
    simp only [Fk.fits, Bool.and_eq_true, decide_eq_true_eq, beq_iff_eq] at hF
    obtain ⟨⟨⟨⟨hi, hj⟩, hlen⟩, hfx⟩, hfy⟩ := hF
    simp only [forkOk, Bool.and_eq_true, beq_iff_eq] at hB
    obtain ⟨⟨hk, hBx⟩, hBy⟩ := hB
    refine wpAnyH_all hk (by simp) fun q hq => ?_
    have hq2 : q = i ∨ q = j := by simpa using hq
    rcases hq2 with rfl | rfl
    · exact wpOp_mono (fun a' w' h' => ⟨h'.1, ihx _ _ _ hfx hBx h'.1 h'.2⟩) (effT_op (nth_get l q hi) hA h.1)
    · refine wpOp_mono (fun a' w' h' => ⟨h'.1, ?_⟩) (effT_op (nth_get l q hj) hA h.2)
      show wpAnyH P md l.toArray Q (Ex A) x.len _ a' w'
      rw [hlen]
      exact ihy _ _ _ hfy hBy h'.1 h'.2
/-- **A tree of orders serves every order.** -/
theorem wp_region_fork {id : Nat} {a : Act} {w : World} {l : List Oper} (A : World) (t : Fk) (hA : Ex A w.drew) (hm : P.follows .mixedOrders = true)
    (hB : (Region.noSelect l.toArray && t.len == l.toArray.size && t.fits l.length && forkOk .any l.toArray t (Array.replicate l.toArray.size false)) = true)
    (hQ : ∀ c a d v w, Q (.panic c) (a.put d v) w → Q (.panic c) a w)
    (h : wpFork P l.toArray Q A (t.ops l) a w.drew) : (Code.region id l.toArray true).wp P Q a w := by
  simp only [Bool.and_eq_true, beq_iff_eq] at hB
  obtain ⟨⟨⟨hsel, hlen⟩, hall⟩, hseq⟩ := hB
  refine wp_region_held (S := Ex A) hm ?_
  have H := wpAnyH_fork (md := .any) (P := P) (A := A) rfl hsel hQ t (Array.replicate l.toArray.size false) a w.drew hall hseq hA h
  rwa [hlen] at H
end
end Go.Proofs.YtcdocklbpfdmeaaDoor
