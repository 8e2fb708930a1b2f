import Derived.Test.YtabjamkkhlbajaaDoorMDraw
import Derived.Test.YtabjamkkhlbajaaDoorMMem

/- A region that draws its order, walked in one order, over whatever is known of the worlds between. Over whatever program. -/
set_option linter.unusedSimpArgs false
set_option linter.unusedVariables false
set_option maxRecDepth 20000
namespace Go.Proofs.YtabjamkkhlbajaaDoor
open Go.RowKit
/-- X where it agrees with A at the block b; else A. -/
noncomputable def fx (A : World) (b : Nat) (X : World) : World := open Classical in if X.heap[b]? = A.heap[b]? then X else A
theorem fx_heap (A : World) (b : Nat) (X : World) : (fx A b X).heap[b]? = A.heap[b]? := by
  unfold fx; split
  · assumption
  · rfl
@[go_sem high] theorem fx_cell (A : World) (b : Nat) (X : World) (o : Nat) : (fx A b X).cell? ⟨b, o, none⟩ = A.cell? ⟨b, o, none⟩ := by
  simp only [World.cell?, fx_heap]
@[go_sem high] theorem fx_cellsN (A : World) (b : Nat) (X : World) (o n : Nat) : cellsN (fx A b X) b o n = cellsN A b o n := cellsN_congr fun j _ => fx_cell A b X _
def MixQH (Q : Exit → Act → World → Prop) (R : Act → World → Prop) (H : World → Prop) : Exit → Act → World → Prop
  | .normal, a', w' => H w' ∧ R a' w'
  | e, a', w' => Q e a' w'
theorem mixQH_mk {Q : Exit → Act → World → Prop} {R : Act → World → Prop} {H : World → Prop} {a' : Act} {w' : World} (h : H w') (k : R a' w') : MixQH Q R H .normal a' w' := ⟨h, k⟩
theorem mixQH_wp {P : Program} {Q : Exit → Act → World → Prop} {R : Act → World → Prop} {o : Oper} {a : Act} {w : World} {H : World → Prop} {K : Act → World → Prop} (h : o.wp P a w K (MixQH Q R H)) : o.wp P a w K Q := by
  unfold Oper.wp at *
  generalize (execOp a.eval o).run P w = r at *
  cases r with
  | ok n w' =>
    cases n <;> simp only [Oper.upon] at h ⊢ <;>
      first
        | exact h
        | exact Calls.mono h (fun e w'' he => by cases e <;> exact he)
  | halt x w' => cases x <;> simp only [Oper.upon] at h ⊢ <;> exact h
section
variable {P : Program} {ops : Array Oper} {Q : Exit → Act → World → Prop} {md : Region.Mode}
end
end Go.Proofs.YtabjamkkhlbajaaDoor

/- A tree of orders of a region that draws, over whatever is known of the worlds between. Over whatever program. -/
set_option linter.unusedSimpArgs false
set_option linter.unusedVariables false
set_option maxRecDepth 20000
namespace Go.Proofs.YtabjamkkhlbajaaDoor
open Go.RowKit
section
variable {P : Program} {ops : Array Oper} {Q : Exit → Act → World → Prop} {md : Region.Mode}
def effH (P : Program) (ops : Array Oper) (Q : Exit → Act → World → Prop) (H : World → Prop) (o : Oper) (K : Act → World → Prop) (a : Act) (w : World) : Prop :=
  if Region.wanted o (yielded ops a.tmps) then (o.wp P a w (fun a' w' => H w' ∧ K a' w') Q ∨ (o.asks P a w ∧ LetsOut Q)) else K (a.put o.dst undef) w
def wpForkH (P : Program) (ops : Array Oper) (Q : Exit → Act → World → Prop) (H : World → Prop) : FkO → Act → World → Prop
  | .done, a, w => Q .normal a w
  | .look o r, a, w => if Region.wanted o (yielded ops a.tmps) then o.quiet P a H (fun a' => wpForkH P ops Q H r a' w) else wpForkH P ops Q H r (a.put o.dst undef) w
  | .eff o r, a, w => effH P ops Q H o (wpForkH P ops Q H r) a w
  | .fork o x p y, a, w => effH P ops Q H o (wpForkH P ops Q H x) a w ∧ effH P ops Q H p (wpForkH P ops Q H y) a w
theorem wpForkH_look {H : World → Prop} {o : Oper} {r : FkO} {a : Act} {w : World}
    (h : wpQuiet P ops H (fun a' => wpForkH P ops Q H r a' w) [o] a) : wpForkH P ops Q H (.look o r) a w := h
theorem wpForkH_eff {H : World → Prop} {o : Oper} {r : FkO} {a : Act} {w : World} (h : effH P ops Q H o (wpForkH P ops Q H r) a w) : wpForkH P ops Q H (.eff o r) a w := h
theorem wpForkH_fork {H : World → Prop} {o p : Oper} {x y : FkO} {a : Act} {w : World} (h : effH P ops Q H o (wpForkH P ops Q H x) a w) (k : effH P ops Q H p (wpForkH P ops Q H y) a w) : wpForkH P ops Q H (.fork o x p y) a w := ⟨h, k⟩
theorem wpForkH_nil {H : World → Prop} {a : Act} {w : World} (h : Q .normal a w) : wpForkH P ops Q H .done a w := h
theorem effH_T {H : World → Prop} {o : Oper} {K : Act → World → Prop} {a : Act} {w : World} (hw : Region.wanted o (yielded ops a.tmps) = true)
    (h : wpList P ops (MixQH Q K H) [{ o with guard := none }] a w) : effH P ops Q H o K a w := by
  unfold effH
  rw [if_pos hw]
  unfold wpList at h
  rw [if_pos (by simp [Region.wanted])] at h
  rcases h with h | ⟨h1, h2⟩
  · exact .inl (mixQH_wp (Oper.wp_mono (fun a' w' h' => h') h))
  · exact .inr ⟨h1, h2⟩
theorem effH_F {H : World → Prop} {o : Oper} {K : Act → World → Prop} {a : Act} {w : World} (hw : Region.wanted o (yielded ops a.tmps) = false) (h : K (a.put o.dst undef) w) : effH P ops Q H o K a w := by
  unfold effH
  rw [hw]
  exact h
theorem effH_op {H : World → Prop} {i : Nat} {o : Oper} {K : Act → World → Prop} {a : Act} {w : World} (hi : ops[i]? = some o) (hA : H w) (h : effH P ops Q H o K a w) : wpOp P ops Q i (fun a' w' => H w' ∧ K a' w') a w := by
  unfold effH at h
  unfold wpOp
  simp only [hi]
  by_cases hw : Region.wanted o (yielded ops a.tmps) = true
  · rw [if_pos hw] at h ⊢
    exact h
  · rw [if_neg hw] at h ⊢
    exact ⟨hA, h⟩
theorem wpAnyH_forkH {H : World → Prop} {l : List Oper} (hl : l.toArray = ops) (hsel : Region.noSelect ops = true) (hQ : ∀ c a d v w, Q (.panic c) (a.put d v) w → Q (.panic c) a w) :
    ∀ (t : Fk) (listed : Array Bool) (a : Act) (w : World), t.fits l.length = true → forkOk md ops t listed = true → H w →
      wpForkH P ops Q H (t.ops l) a w → wpAnyH P md ops Q H t.len listed a w := by
  subst hl
  intro t
  induction t with
  | done => exact fun listed a w _ hB hA h => wpAnyH_done (by simpa [forkOk] using hB) h _
  | look i r ih =>
    intro listed a w hF hB hA h
    simp only [Fk.fits, Bool.and_eq_true, decide_eq_true_eq] at hF
    simp only [forkOk, Bool.and_eq_true] at hB
    obtain ⟨⟨hr, hf, hk⟩, hB'⟩ := hB
    have ho := nth_get l i hF.1
    have hl' : isLook (nth l i).op = true := by simpa [ho] using hk
    have hst : ∃ v, YieldsIf P l.toArray H (nth l i) v a ∧ wpForkH P l.toArray Q H (r.ops l) (a.put (nth l i).dst v) w := by
      unfold Fk.ops wpForkH at h
      by_cases hw : Region.wanted (nth l i) (yielded l.toArray a.tmps) = true
      · rw [if_pos hw] at h
        obtain ⟨v, h1, h2⟩ := h
        refine ⟨v, .inl ⟨hw, fun w' hw' => ?_⟩, h2⟩
        have h3 := h1 w' hw'
        unfold Oper.quietAt at h3
        cases hrun : (execOp a.eval (nth l i)).run P w' with
        | ok x w1 =>
          obtain ⟨u, rfl⟩ := look_value hl' a.eval w' x w1 hrun
          rw [hrun] at h3
          simp only [Oper.quietUpon] at h3
          rw [h3.1, h3.2]
        | halt x w1 => rw [hrun] at h3; exact h3.elim
      · rw [if_neg hw] at h
        exact ⟨undef, .inr ⟨by simpa using hw, rfl⟩, h⟩
    obtain ⟨v, hy, hK⟩ := hst
    exact wpAnyH_take ho hsel hf hr (fun c a w => hQ c a _ _ w) hy hA (ih _ _ _ hF.2 hB' hA hK)
  | eff i r ih =>
    intro listed a w hF hB hA h
    simp only [Fk.fits, Bool.and_eq_true, decide_eq_true_eq] at hF
    simp only [forkOk, Bool.and_eq_true, beq_iff_eq] at hB
    obtain ⟨hk, hB'⟩ := hB
    refine wpAnyH_all hk (by simp) fun j hj => ?_
    have hji : j = i := by simpa using hj
    subst hji
    exact wpOp_mono (fun a' w' h' => ⟨h'.1, ih _ _ _ hF.2 hB' h'.1 h'.2⟩) (effH_op (nth_get l j hF.1) hA h)
  | fork i x j y ihx ihy =>
    intro listed a w hF hB hA h
    simp only [Fk.fits, Bool.and_eq_true, decide_eq_true_eq, beq_iff_eq] at hF
    obtain ⟨⟨⟨⟨hi, hj⟩, hlen⟩, hfx⟩, hfy⟩ := hF
    simp only [forkOk, Bool.and_eq_true, beq_iff_eq] at hB
    obtain ⟨⟨hk, hBx⟩, hBy⟩ := hB
    refine wpAnyH_all hk (by simp) fun q hq => ?_
    have hq2 : q = i ∨ q = j := by simpa using hq
    rcases hq2 with rfl | rfl
    · exact wpOp_mono (fun a' w' h' => ⟨h'.1, ihx _ _ _ hfx hBx h'.1 h'.2⟩) (effH_op (nth_get l q hi) hA h.1)
    · refine wpOp_mono (fun a' w' h' => ⟨h'.1, ?_⟩) (effH_op (nth_get l q hj) hA h.2)
      show wpAnyH P md l.toArray Q H x.len _ a' w'
      rw [hlen]
      exact ihy _ _ _ hfy hBy h'.1 h'.2
/-- **A tree of orders serves every order.** -/
theorem wp_region_forkH {id : Nat} {a : Act} {w : World} {l : List Oper} (H : World → Prop) (t : Fk) (hA : H w.drew) (hm : P.follows .mixedOrders = true)
    (hB : (Region.noSelect l.toArray && t.len == l.toArray.size && t.fits l.length && forkOk .any l.toArray t (Array.replicate l.toArray.size false)) = true)
    (hQ : ∀ c a d v w, Q (.panic c) (a.put d v) w → Q (.panic c) a w)
    (h : wpForkH P l.toArray Q H (t.ops l) a w.drew) : (Code.region id l.toArray true).wp P Q a w := by
  simp only [Bool.and_eq_true, beq_iff_eq] at hB
  obtain ⟨⟨⟨hsel, hlen⟩, hall⟩, hseq⟩ := hB
  refine wp_region_held (S := H) hm ?_
  have H1 := wpAnyH_forkH (md := .any) (P := P) (H := H) rfl hsel hQ t (Array.replicate l.toArray.size false) a w.drew hall hseq hA h
  rwa [hlen] at H1
end
/-! ### Worlds that hold what A holds, but for one block -/
/-- X where it holds what A holds, but for a block; else A. -/
noncomputable def kx (A : World) (o : Option Nat) (X : World) : World := open Classical in if ∀ k, k < A.heap.size → o ≠ some k → X.heap[k]? = A.heap[k]? then X else A
theorem kx_heap (A : World) (o : Option Nat) (X : World) {k : Nat} (h : k < A.heap.size) (h2 : o ≠ some k) : (kx A o X).heap[k]? = A.heap[k]? := by
  unfold kx; split
  · rename_i h3; exact h3 k h h2
  · rfl
noncomputable def kxFar (A : World) (o : Option Nat) (X : World) (a : Addr) : Option Value := (kx A o X).cell? a
noncomputable def kxFarN (A : World) (o : Option Nat) (X : World) (b i n : Nat) : Option (Array Value) := cellsN (kx A o X) b i n
@[go_sem high] theorem kx_cell (A : World) (o : Option Nat) (X : World) (b i : Nat) : (kx A o X).cell? ⟨b, i, none⟩ = if b < A.heap.size ∧ o ≠ some b then A.cell? ⟨b, i, none⟩ else kxFar A o X ⟨b, i, none⟩ := by
  split
  · rename_i h; simp only [World.cell?, kx_heap A o X h.1 h.2]
  · rfl
@[go_sem high] theorem kx_cellsN (A : World) (o : Option Nat) (X : World) (b i n : Nat) : cellsN (kx A o X) b i n = if b < A.heap.size ∧ o ≠ some b then cellsN A b i n else kxFarN A o X b i n := by
  split
  · rename_i h; exact cellsN_congr fun j _ => by simp only [World.cell?, kx_heap A o X h.1 h.2]
  · rfl
end Go.Proofs.YtabjamkkhlbajaaDoor
