import Derived.Test.YtcdocklbpfdmeaaDoorMDraw
import Derived.OrdersHeld

/- A region that draws its order, walked in one order at one world: what looks sees what the region began with; what is made may turn what the region itself has made. Over whatever program. -/
set_option linter.unusedSimpArgs false
set_option linter.unusedVariables false
set_option maxRecDepth 20000
namespace Go.Proofs.YtcdocklbpfdmeaaDoor
open Go.RowKit
theorem ex_drewL {w W : World} (h : Ex w W) : Ex w.drew W := by obtain ⟨X, rfl⟩ := h; exact ⟨X, rfl⟩
/-- What a growing row leaves, as what lies behind. -/
theorem exOf {A w w1 : World} (k : Ex A w) (hbe : Below A.heap.size w w1) : ∃ X, w1 = wx A X := ex_of_below ((ex_below k).trans hbe)
section
variable {P : Program} {ops : Array Oper} {Q : Exit → Act → World → Prop} {md : Region.Mode}
def wpSeq (P : Program) (ops : Array Oper) (Q : Exit → Act → World → Prop) (A : World) : List (Oper × Bool) → Act → World → Prop
  | [], a, w => Q .normal a w
  | (o, true) :: r, a, w => if Region.wanted o (yielded ops a.tmps) then o.quiet P a (Ex A) (fun a' => wpSeq P ops Q A r a' w) else wpSeq P ops Q A r (a.put o.dst undef) w
  | (o, false) :: r, a, w => if Region.wanted o (yielded ops a.tmps) then (o.wp P a w (fun a' w' => Ex A w' ∧ wpSeq P ops Q A r a' w') Q ∨ (o.asks P a w ∧ LetsOut Q)) else wpSeq P ops Q A r (a.put o.dst undef) w
theorem wpSeq_look {A : World} {o : Oper} {r : List (Oper × Bool)} {a : Act} {w : World}
    (h : wpQuiet P ops (fun w' => ∃ X, w' = wx A X) (fun a' => wpSeq P ops Q A r a' w) [o] a) : wpSeq P ops Q A ((o, true) :: r) a w := h
theorem wpSeq_eff {A : World} {o : Oper} {r : List (Oper × Bool)} {a : Act} {w : World} (hw : Region.wanted o (yielded ops a.tmps) = true)
    (h : wpList P ops (MixQ Q (wpSeq P ops Q A r) A) [{ o with guard := none }] a w) : wpSeq P ops Q A ((o, false) :: r) a w := by
  unfold wpSeq
  rw [if_pos hw]
  unfold wpList at h
  rw [if_pos (by simp [Region.wanted])] at h
  rcases h with h | ⟨h1, h2⟩
  · exact .inl (mixQ_wp (Oper.wp_mono (fun a' w' h' => h') h))
  · exact .inr ⟨h1, h2⟩
theorem wpSeq_effF {A : World} {o : Oper} {r : List (Oper × Bool)} {a : Act} {w : World} (hw : Region.wanted o (yielded ops a.tmps) = false)
    (h : wpSeq P ops Q A r (a.put o.dst undef) w) : wpSeq P ops Q A ((o, false) :: r) a w := by
  unfold wpSeq
  rw [hw]
  exact h
theorem wpSeq_nil {A : World} {a : Act} {w : World} (h : Q .normal a w) : wpSeq P ops Q A [] a w := h
def seqOk (md : Region.Mode) (ops : Array Oper) : List (Nat × Bool) → Array Bool → Bool
  | [], listed => Region.ready md ops listed == []
  | (i, look) :: r, listed => (Region.ready md ops listed).contains i && (if look then Region.free md ops listed i && ((ops[i]?).map (fun o => isLook o.op)).getD false else Region.ready md ops listed == [i]) &&
      seqOk md ops r (listed.setIfInBounds i true)
theorem wpAnyH_seq {A : World} (hsel : Region.noSelect ops = true) (hQ : ∀ c a d v w, Q (.panic c) (a.put d v) w → Q (.panic c) a w) :
    ∀ (l : List (Nat × Bool)) (m : List (Oper × Bool)) (listed : Array Bool) (a : Act) (w : World), l.map (fun x => (ops[x.1]?, x.2)) = m.map (fun x => (some x.1, x.2)) → seqOk md ops l listed = true → Ex A w →
      wpSeq P ops Q A m a w → wpAnyH P md ops Q (Ex A) l.length listed a w := by
  intro l
  induction l with
  | nil =>
    intro m listed a w hm hB hA h
    cases m with
    | nil => exact wpAnyH_done (by simpa [seqOk] using hB) h _
    | cons x m => cases hm
  | cons x l ih =>
    intro m listed a w hm hB hA h
    obtain ⟨i, look⟩ := x
    cases m with
    | nil => cases hm
    | cons y m =>
      obtain ⟨o, look'⟩ := y
      simp only [List.map_cons, List.cons.injEq, Prod.mk.injEq] at hm
      obtain ⟨⟨ho, rfl⟩, hm⟩ := hm
      simp only [seqOk, Bool.and_eq_true] at hB
      obtain ⟨⟨hr, hk⟩, hB'⟩ := hB
      cases look with
      | true =>
        simp only [if_true, Bool.and_eq_true] at hk
        obtain ⟨hf, hl⟩ := hk
        have hl' : isLook o.op = true := by simpa [ho] using hl
        have hst : ∃ v, YieldsIf P ops (Ex A) o v a ∧ wpSeq P ops Q A m (a.put o.dst v) w := by
          unfold wpSeq at h
          by_cases hw : Region.wanted o (yielded ops a.tmps) = true
          · rw [if_pos hw] at h
            obtain ⟨v, h1, h2⟩ := h
            refine ⟨v, .inl ⟨hw, fun w' hw' => ?_⟩, h2⟩
            have h3 := h1 w' hw'
            unfold Oper.quietAt at h3
            cases hrun : (execOp a.eval o).run P w' with
            | ok x w1 =>
              obtain ⟨u, rfl⟩ := look_value hl' a.eval w' x w1 hrun
              rw [hrun] at h3
              simp only [Oper.quietUpon] at h3
              rw [h3.1, h3.2]
            | halt x w1 => rw [hrun] at h3; exact h3.elim
          · rw [if_neg hw] at h
            exact ⟨undef, .inr ⟨by simpa using hw, rfl⟩, h⟩
        obtain ⟨v, hy, hK⟩ := hst
        exact wpAnyH_take ho hsel hf hr (fun c a w => hQ c a _ _ w) hy hA (ih m _ _ _ hm hB' hA hK)
      | false =>
        simp only [Bool.false_eq_true, if_false, beq_iff_eq] at hk
        refine wpAnyH_all hk (by simp) fun j hj => ?_
        have hji : j = i := by simpa using hj
        subst hji
        unfold wpSeq at h
        unfold wpOp
        simp only [ho]
        by_cases hw : Region.wanted o (yielded ops a.tmps) = true
        · rw [if_pos hw] at h ⊢
          rcases h with h | h
          · exact .inl (Oper.wp_mono (fun a' w' h' => ⟨h'.1, ih m _ _ _ hm hB' h'.1 h'.2⟩) h)
          · exact .inr h
        · rw [if_neg hw] at h ⊢
          exact ⟨hA, ih m _ _ _ hm hB' hA h⟩
/-- **One order serves every order**, at one world. -/
theorem wp_region_seq {id : Nat} {a : Act} {w : World} {l : List Oper} (order : List (Nat × Bool)) (hm : P.follows .mixedOrders = true)
    (hB : (Region.noSelect l.toArray && order.length == l.toArray.size && order.all (fun x => decide (x.1 < l.length)) && seqOk .any l.toArray order (Array.replicate l.toArray.size false)) = true)
    (hQ : ∀ c a d v w, Q (.panic c) (a.put d v) w → Q (.panic c) a w)
    (h : wpSeq P l.toArray Q w.drew (order.map fun x => (nth l x.1, x.2)) a w.drew) : (Code.region id l.toArray true).wp P Q a w := by
  simp only [Bool.and_eq_true, beq_iff_eq, List.all_eq_true, decide_eq_true_eq] at hB
  obtain ⟨⟨⟨hsel, hlen⟩, hall⟩, hseq⟩ := hB
  refine wp_region_held (S := Ex w.drew) hm ?_
  have H := wpAnyH_seq (md := .any) (P := P) (A := w.drew) hsel hQ order (order.map fun x => (nth l x.1, x.2)) (Array.replicate l.toArray.size false) a w.drew (by
    simp only [List.map_map]
    refine List.map_congr_left fun x hx => ?_
    simp only [Function.comp, Prod.mk.injEq, and_true]
    exact nth_get l x.1 (hall x hx)) hseq (ex_refl _) h
  rwa [hlen] at H
/-- The same, over an elder world. -/
theorem wp_region_seqA {id : Nat} {a : Act} {w : World} {l : List Oper} (A : World) (order : List (Nat × Bool)) (hA : Ex A w.drew) (hm : P.follows .mixedOrders = true)
    (hB : (Region.noSelect l.toArray && order.length == l.toArray.size && order.all (fun x => decide (x.1 < l.length)) && seqOk .any l.toArray order (Array.replicate l.toArray.size false)) = true)
    (hQ : ∀ c a d v w, Q (.panic c) (a.put d v) w → Q (.panic c) a w)
    (h : wpSeq P l.toArray Q A (order.map fun x => (nth l x.1, x.2)) a w.drew) : (Code.region id l.toArray true).wp P Q a w := by
  simp only [Bool.and_eq_true, beq_iff_eq, List.all_eq_true, decide_eq_true_eq] at hB
  obtain ⟨⟨⟨hsel, hlen⟩, hall⟩, hseq⟩ := hB
  refine wp_region_held (S := Ex A) hm ?_
  have H := wpAnyH_seq (md := .any) (P := P) (A := A) hsel hQ order (order.map fun x => (nth l x.1, x.2)) (Array.replicate l.toArray.size false) a w.drew (by
    simp only [List.map_map]
    refine List.map_congr_left fun x hx => ?_
    simp only [Function.comp, Prod.mk.injEq, and_true]
    exact nth_get l x.1 (hall x hx)) hseq hA h
  rwa [hlen] at H
end
end Go.Proofs.YtcdocklbpfdmeaaDoor

/- A region that draws its order, at one world, where two of what makes may come up in either order. Over whatever program. -/
set_option linter.unusedSimpArgs false
set_option linter.unusedVariables false
set_option maxRecDepth 20000
namespace Go.Proofs.YtcdocklbpfdmeaaDoor
open Go.RowKit
inductive Stp where
  | look (o : Oper)
  | eff (o : Oper)
  | two (o p : Oper)
inductive Ix where
  | look (i : Nat)
  | eff (i : Nat)
  | two (i j : Nat)
section
variable {P : Program} {ops : Array Oper} {Q : Exit → Act → World → Prop} {md : Region.Mode}
def effT (P : Program) (ops : Array Oper) (Q : Exit → Act → World → Prop) (A : World) (o : Oper) (K : Act → World → Prop) (a : Act) (w : World) : Prop :=
  if Region.wanted o (yielded ops a.tmps) then (o.wp P a w (fun a' w' => Ex A w' ∧ K a' w') Q ∨ (o.asks P a w ∧ LetsOut Q)) else K (a.put o.dst undef) w
def wpTwo (P : Program) (ops : Array Oper) (Q : Exit → Act → World → Prop) (A : World) : List Stp → Act → World → Prop
  | [], a, w => Q .normal a w
  | .look o :: r, a, w => if Region.wanted o (yielded ops a.tmps) then o.quiet P a (Ex A) (fun a' => wpTwo P ops Q A r a' w) else wpTwo P ops Q A r (a.put o.dst undef) w
  | .eff o :: r, a, w => effT P ops Q A o (wpTwo P ops Q A r) a w
  | .two o p :: r, a, w => effT P ops Q A o (effT P ops Q A p (wpTwo P ops Q A r)) a w ∧ effT P ops Q A p (effT P ops Q A o (wpTwo P ops Q A r)) a w
theorem wpTwo_look {A : World} {o : Oper} {r : List Stp} {a : Act} {w : World}
    (h : wpQuiet P ops (fun w' => ∃ X, w' = wx A X) (fun a' => wpTwo P ops Q A r a' w) [o] a) : wpTwo P ops Q A (.look o :: r) a w := h
theorem wpTwo_eff {A : World} {o : Oper} {r : List Stp} {a : Act} {w : World} (h : effT P ops Q A o (wpTwo P ops Q A r) a w) : wpTwo P ops Q A (.eff o :: r) a w := h
theorem wpTwo_two {A : World} {o p : Oper} {r : List Stp} {a : Act} {w : World} (h : effT P ops Q A o (effT P ops Q A p (wpTwo P ops Q A r)) a w) (k : effT P ops Q A p (effT P ops Q A o (wpTwo P ops Q A r)) a w) : wpTwo P ops Q A (.two o p :: r) a w := ⟨h, k⟩
theorem wpTwo_nil {A : World} {a : Act} {w : World} (h : Q .normal a w) : wpTwo P ops Q A [] a w := h
theorem effT_T {A : World} {o : Oper} {K : Act → World → Prop} {a : Act} {w : World} (hw : Region.wanted o (yielded ops a.tmps) = true)
    (h : wpList P ops (MixQ Q K A) [{ o with guard := none }] a w) : effT P ops Q A o K a w := by
  unfold effT
  rw [if_pos hw]
  unfold wpList at h
  rw [if_pos (by simp [Region.wanted])] at h
  rcases h with h | ⟨h1, h2⟩
  · exact .inl (mixQ_wp (Oper.wp_mono (fun a' w' h' => h') h))
  · exact .inr ⟨h1, h2⟩
theorem effT_F {A : World} {o : Oper} {K : Act → World → Prop} {a : Act} {w : World} (hw : Region.wanted o (yielded ops a.tmps) = false) (h : K (a.put o.dst undef) w) : effT P ops Q A o K a w := by
  unfold effT
  rw [hw]
  exact h
theorem effT_op {A : World} {i : Nat} {o : Oper} {K : Act → World → Prop} {a : Act} {w : World} (hi : ops[i]? = some o) (hA : Ex A w) (h : effT P ops Q A o K a w) : wpOp P ops Q i (fun a' w' => Ex A w' ∧ K a' w') a w := by
  unfold effT at h
  unfold wpOp
  simp only [hi]
  by_cases hw : Region.wanted o (yielded ops a.tmps) = true
  · rw [if_pos hw] at h ⊢; exact h
  · rw [if_neg hw] at h ⊢; exact ⟨hA, h⟩
def ixOp (ops : Array Oper) : Ix → Option Stp
  | .look i => (ops[i]?).map .look
  | .eff i => (ops[i]?).map .eff
  | .two i j => match ops[i]?, ops[j]? with | some o, some p => some (.two o p) | _, _ => none
def fuelT : List Ix → Nat
  | [] => 0
  | .two _ _ :: r => fuelT r + 1 + 1
  | _ :: r => fuelT r + 1
def twoOk (md : Region.Mode) (ops : Array Oper) : List Ix → Array Bool → Bool
  | [], listed => Region.ready md ops listed == []
  | .look i :: r, listed => (Region.ready md ops listed).contains i && (Region.free md ops listed i && ((ops[i]?).map (fun o => isLook o.op)).getD false) && twoOk md ops r (listed.setIfInBounds i true)
  | .eff i :: r, listed => Region.ready md ops listed == [i] && twoOk md ops r (listed.setIfInBounds i true)
  | .two i j :: r, listed => !(i == j) && Region.ready md ops listed == [i, j] && Region.ready md ops (listed.setIfInBounds i true) == [j] && Region.ready md ops (listed.setIfInBounds j true) == [i] && twoOk md ops r ((listed.setIfInBounds i true).setIfInBounds j true)
theorem wpAnyH_two {A : World} (hsel : Region.noSelect ops = true) (hQ : ∀ c a d v w, Q (.panic c) (a.put d v) w → Q (.panic c) a w) :
    ∀ (l : List Ix) (m : List Stp) (listed : Array Bool) (a : Act) (w : World), l.map (ixOp ops) = m.map some → twoOk md ops l listed = true → Ex A w →
      wpTwo P ops Q A m a w → wpAnyH P md ops Q (Ex A) (fuelT l) listed a w := by
  intro l
  induction l with
  | nil =>
    intro m listed a w hm hB hA h
    cases m with
    | nil => exact wpAnyH_done (by simpa [twoOk] using hB) h _
    | cons x m => cases hm
  | cons x l ih =>
    intro m listed a w hm hB hA h
    cases m with
    | nil => cases hm
    | cons y m =>
      simp only [List.map_cons, List.cons.injEq] at hm
      obtain ⟨hx, hm⟩ := hm
      cases x with
      | look i =>
        simp only [ixOp, Option.map_eq_some_iff] at hx
        obtain ⟨o, ho, rfl⟩ := hx
        simp only [twoOk, Bool.and_eq_true] at hB
        obtain ⟨⟨hr, hf, hl⟩, hB'⟩ := hB
        have hl' : isLook o.op = true := by simpa [ho] using hl
        have hst : ∃ v, YieldsIf P ops (Ex A) o v a ∧ wpTwo P ops Q A m (a.put o.dst v) w := by
          unfold wpTwo at h
          by_cases hw : Region.wanted o (yielded ops a.tmps) = true
          · rw [if_pos hw] at h
            obtain ⟨v, h1, h2⟩ := h
            refine ⟨v, .inl ⟨hw, fun w' hw' => ?_⟩, h2⟩
            have h3 := h1 w' hw'
            unfold Oper.quietAt at h3
            cases hrun : (execOp a.eval o).run P w' with
            | ok x w1 =>
              obtain ⟨u, rfl⟩ := look_value hl' a.eval w' x w1 hrun
              rw [hrun] at h3
              simp only [Oper.quietUpon] at h3
              rw [h3.1, h3.2]
            | halt x w1 => rw [hrun] at h3; exact h3.elim
          · rw [if_neg hw] at h
            exact ⟨undef, .inr ⟨by simpa using hw, rfl⟩, h⟩
        obtain ⟨v, hy, hK⟩ := hst
        exact wpAnyH_take ho hsel hf hr (fun c a w => hQ c a _ _ w) hy hA (ih m _ _ _ hm hB' hA hK)
      | eff i =>
        simp only [ixOp, Option.map_eq_some_iff] at hx
        obtain ⟨o, ho, rfl⟩ := hx
        simp only [twoOk, Bool.and_eq_true, beq_iff_eq] at hB
        obtain ⟨hk, hB'⟩ := hB
        refine wpAnyH_all hk (by simp) fun j hj => ?_
        have hji : j = i := by simpa using hj
        subst hji
        exact wpOp_mono (fun a' w' h' => ⟨h'.1, ih m _ _ _ hm hB' h'.1 h'.2⟩) (effT_op ho hA h)
      | two i j =>
        have hxy : ∃ o p, ops[i]? = some o ∧ ops[j]? = some p ∧ y = .two o p := by
          simp only [ixOp] at hx
          cases ho : ops[i]? with
          | none => rw [ho] at hx; cases hx
          | some o =>
            cases hp : ops[j]? with
            | none => rw [ho, hp] at hx; cases hx
            | some p => rw [ho, hp] at hx; exact ⟨o, p, rfl, rfl, (Option.some.inj hx).symm⟩
        obtain ⟨o, p, ho, hp, rfl⟩ := hxy
        simp only [twoOk, Bool.and_eq_true, beq_iff_eq, Bool.not_eq_true', beq_eq_false_iff_ne] at hB
        obtain ⟨⟨⟨⟨hne, hk⟩, hk1⟩, hk2⟩, hB'⟩ := hB
        have hc : (listed.setIfInBounds j true).setIfInBounds i true = (listed.setIfInBounds i true).setIfInBounds j true := Array.setIfInBounds_comm _ _ (Ne.symm hne)
        refine wpAnyH_all hk (by simp) fun q hq => ?_
        have hq2 : q = i ∨ q = j := by simpa using hq
        rcases hq2 with rfl | rfl
        · refine wpOp_mono (fun a' w' h' => ⟨h'.1, ?_⟩) (effT_op ho hA h.1)
          refine wpAnyH_all hk1 (by simp) fun q2 hq2 => ?_
          have hqj : q2 = j := by simpa using hq2
          subst hqj
          exact wpOp_mono (fun a' w' h'' => ⟨h''.1, ih m _ _ _ hm hB' h''.1 h''.2⟩) (effT_op hp h'.1 h'.2)
        · refine wpOp_mono (fun a' w' h' => ⟨h'.1, ?_⟩) (effT_op hp hA h.2)
          refine wpAnyH_all hk2 (by simp) fun q2 hq2 => ?_
          have hqj : q2 = i := by simpa using hq2
          subst hqj
          exact wpOp_mono (fun a' w' h'' => ⟨h''.1, by rw [hc]; exact ih m _ _ _ hm hB' h''.1 h''.2⟩) (effT_op ho h'.1 h'.2)
def ixStp (l : List Oper) : Ix → Stp
  | .look i => .look (nth l i)
  | .eff i => .eff (nth l i)
  | .two i j => .two (nth l i) (nth l j)
def ixIn (n : Nat) : Ix → Bool
  | .look i => decide (i < n)
  | .eff i => decide (i < n)
  | .two i j => decide (i < n) && decide (j < n)
/-- **One order serves every order**, but for pairs. -/
theorem wp_region_two {id : Nat} {a : Act} {w : World} {l : List Oper} (A : World) (order : List Ix) (hA : Ex A w.drew) (hm : P.follows .mixedOrders = true)
    (hB : (Region.noSelect l.toArray && fuelT order == l.toArray.size && order.all (ixIn l.length) && twoOk .any l.toArray order (Array.replicate l.toArray.size false)) = true)
    (hQ : ∀ c a d v w, Q (.panic c) (a.put d v) w → Q (.panic c) a w)
    (h : wpTwo P l.toArray Q A (order.map (ixStp l)) a w.drew) : (Code.region id l.toArray true).wp P Q a w := by
  simp only [Bool.and_eq_true, beq_iff_eq, List.all_eq_true] at hB
  obtain ⟨⟨⟨hsel, hlen⟩, hall⟩, hseq⟩ := hB
  refine wp_region_held (S := Ex A) hm ?_
  have H := wpAnyH_two (md := .any) (P := P) (A := A) hsel hQ order (order.map (ixStp l)) (Array.replicate l.toArray.size false) a w.drew (by
    rw [List.map_map]
    refine List.map_congr_left fun x hx => ?_
    have hx2 := hall x hx
    cases x with
    | look i => simp only [ixIn, decide_eq_true_eq] at hx2; simp only [ixOp, ixStp, Function.comp, nth_get l i hx2, Option.map_some]
    | eff i => simp only [ixIn, decide_eq_true_eq] at hx2; simp only [ixOp, ixStp, Function.comp, nth_get l i hx2, Option.map_some]
    | two i j => simp only [ixIn, Bool.and_eq_true, decide_eq_true_eq] at hx2; simp only [ixOp, ixStp, Function.comp, nth_get l i hx2.1, nth_get l j hx2.2]) hseq hA h
  rwa [hlen] at H
end
end Go.Proofs.YtcdocklbpfdmeaaDoor

/- A region that draws its order, over an elder world, where what makes may come up in several orders: a tree of orders. Over whatever program. -/
set_option linter.unusedSimpArgs false
set_option linter.unusedVariables false
set_option maxRecDepth 20000
namespace Go.Proofs.YtcdocklbpfdmeaaDoor
open Go.RowKit
/-- A tree of orders: by index; by operation. -/
inductive Fk where
  | done
  | look (i : Nat) (r : Fk)
  | eff (i : Nat) (r : Fk)
  | fork (i : Nat) (x : Fk) (j : Nat) (y : Fk)
inductive FkO where
  | done
  | look (o : Oper) (r : FkO)
  | eff (o : Oper) (r : FkO)
  | fork (o : Oper) (x : FkO) (p : Oper) (y : FkO)
def Fk.len : Fk → Nat
  | .done => 0
  | .look _ r => r.len + 1
  | .eff _ r => r.len + 1
  | .fork _ x _ _ => x.len + 1
def Fk.fits (n : Nat) : Fk → Bool
  | .done => true
  | .look i r => decide (i < n) && r.fits n
  | .eff i r => decide (i < n) && r.fits n
  | .fork i x j y => decide (i < n) && decide (j < n) && (x.len == y.len) && x.fits n && y.fits n
def Fk.ops (l : List Oper) : Fk → FkO
  | .done => .done
  | .look i r => .look (nth l i) (r.ops l)
  | .eff i r => .eff (nth l i) (r.ops l)
  | .fork i x j y => .fork (nth l i) (x.ops l) (nth l j) (y.ops l)
section
variable {P : Program} {ops : Array Oper} {Q : Exit → Act → World → Prop} {md : Region.Mode}
def forkOk (md : Region.Mode) (ops : Array Oper) : Fk → Array Bool → Bool
  | .done, listed => Region.ready md ops listed == []
  | .look i r, listed => (Region.ready md ops listed).contains i && (Region.free md ops listed i && ((ops[i]?).map (fun o => isLook o.op)).getD false) && forkOk md ops r (listed.setIfInBounds i true)
  | .eff i r, listed => Region.ready md ops listed == [i] && forkOk md ops r (listed.setIfInBounds i true)
  | .fork i x j y, listed => Region.ready md ops listed == [i, j] && forkOk md ops x (listed.setIfInBounds i true) && forkOk md ops y (listed.setIfInBounds j true)
end
end Go.Proofs.YtcdocklbpfdmeaaDoor

/- A region that draws its order, over an elder world, where up to three things that make may come up at once: a tree of orders. Over whatever program. -/
set_option linter.unusedSimpArgs false
set_option linter.unusedVariables false
set_option maxRecDepth 20000
namespace Go.Proofs.YtcdocklbpfdmeaaDoor
open Go.RowKit
/-- A tree of orders: by index; by operation. -/
inductive Fj where
  | done
  | look (i : Nat) (r : Fj)
  | eff (i : Nat) (r : Fj)
  | fork (i : Nat) (x : Fj) (j : Nat) (y : Fj)
  | three (i : Nat) (x : Fj) (j : Nat) (y : Fj) (k : Nat) (z : Fj)
inductive FjO where
  | done
  | look (o : Oper) (r : FjO)
  | eff (o : Oper) (r : FjO)
  | fork (o : Oper) (x : FjO) (p : Oper) (y : FjO)
  | three (o : Oper) (x : FjO) (p : Oper) (y : FjO) (q : Oper) (z : FjO)
def Fj.len : Fj → Nat
  | .done => 0
  | .look _ r => r.len + 1
  | .eff _ r => r.len + 1
  | .fork _ x _ _ => x.len + 1
  | .three _ x _ _ _ _ => x.len + 1
def Fj.fits (n : Nat) : Fj → Bool
  | .done => true
  | .look i r => decide (i < n) && r.fits n
  | .eff i r => decide (i < n) && r.fits n
  | .fork i x j y => decide (i < n) && decide (j < n) && (x.len == y.len) && x.fits n && y.fits n
  | .three i x j y k z => decide (i < n) && decide (j < n) && decide (k < n) && (x.len == y.len) && (x.len == z.len) && x.fits n && y.fits n && z.fits n
def Fj.ops (l : List Oper) : Fj → FjO
  | .done => .done
  | .look i r => .look (nth l i) (r.ops l)
  | .eff i r => .eff (nth l i) (r.ops l)
  | .fork i x j y => .fork (nth l i) (x.ops l) (nth l j) (y.ops l)
  | .three i x j y k z => .three (nth l i) (x.ops l) (nth l j) (y.ops l) (nth l k) (z.ops l)
section
variable {P : Program} {ops : Array Oper} {Q : Exit → Act → World → Prop} {md : Region.Mode}
def wpForkJ (P : Program) (ops : Array Oper) (Q : Exit → Act → World → Prop) (A : World) : FjO → Act → World → Prop
  | .done, a, w => Q .normal a w
  | .look o r, a, w => if Region.wanted o (yielded ops a.tmps) then o.quiet P a (Ex A) (fun a' => wpForkJ P ops Q A r a' w) else wpForkJ P ops Q A r (a.put o.dst undef) w
  | .eff o r, a, w => effT P ops Q A o (wpForkJ P ops Q A r) a w
  | .fork o x p y, a, w => effT P ops Q A o (wpForkJ P ops Q A x) a w ∧ effT P ops Q A p (wpForkJ P ops Q A y) a w
  | .three o x p y q z, a, w => effT P ops Q A o (wpForkJ P ops Q A x) a w ∧ effT P ops Q A p (wpForkJ P ops Q A y) a w ∧ effT P ops Q A q (wpForkJ P ops Q A z) a w
theorem wpForkJ_look {A : World} {o : Oper} {r : FjO} {a : Act} {w : World}
    (h : wpQuiet P ops (fun w' => ∃ X, w' = wx A X) (fun a' => wpForkJ P ops Q A r a' w) [o] a) : wpForkJ P ops Q A (.look o r) a w := h
theorem wpForkJ_eff {A : World} {o : Oper} {r : FjO} {a : Act} {w : World} (h : effT P ops Q A o (wpForkJ P ops Q A r) a w) : wpForkJ P ops Q A (.eff o r) a w := h
theorem wpForkJ_fork {A : World} {o p : Oper} {x y : FjO} {a : Act} {w : World} (h : effT P ops Q A o (wpForkJ P ops Q A x) a w) (k : effT P ops Q A p (wpForkJ P ops Q A y) a w) : wpForkJ P ops Q A (.fork o x p y) a w := ⟨h, k⟩
theorem wpForkJ_three {A : World} {o p q : Oper} {x y z : FjO} {a : Act} {w : World} (h : effT P ops Q A o (wpForkJ P ops Q A x) a w) (k : effT P ops Q A p (wpForkJ P ops Q A y) a w) (m : effT P ops Q A q (wpForkJ P ops Q A z) a w) : wpForkJ P ops Q A (.three o x p y q z) a w := ⟨h, k, m⟩
theorem wpForkJ_nil {A : World} {a : Act} {w : World} (h : Q .normal a w) : wpForkJ P ops Q A .done a w := h
def forkJOk (md : Region.Mode) (ops : Array Oper) : Fj → Array Bool → Bool
  | .done, listed => Region.ready md ops listed == []
  | .look i r, listed => (Region.ready md ops listed).contains i && (Region.free md ops listed i && ((ops[i]?).map (fun o => isLook o.op)).getD false) && forkJOk md ops r (listed.setIfInBounds i true)
  | .eff i r, listed => Region.ready md ops listed == [i] && forkJOk md ops r (listed.setIfInBounds i true)
  | .three i x j y k z, listed => Region.ready md ops listed == [i, j, k] && forkJOk md ops x (listed.setIfInBounds i true) && forkJOk md ops y (listed.setIfInBounds j true) && forkJOk md ops z (listed.setIfInBounds k true)
  | .fork i x j y, listed => Region.ready md ops listed == [i, j] && forkJOk md ops x (listed.setIfInBounds i true) && forkJOk md ops y (listed.setIfInBounds j true)
theorem wpAnyH_forkJ {A : World} {l : List Oper} (hl : l.toArray = ops) (hsel : Region.noSelect ops = true) (hQ : ∀ c a d v w, Q (.panic c) (a.put d v) w → Q (.panic c) a w) :
    ∀ (t : Fj) (listed : Array Bool) (a : Act) (w : World), t.fits l.length = true → forkJOk md ops t listed = true → Ex A w →
      wpForkJ P ops Q A (t.ops l) a w → wpAnyH P md ops Q (Ex A) t.len listed a w := by
  subst hl
  intro t
  induction t with
  | done => exact fun listed a w _ hB hA h => wpAnyH_done (by simpa [forkJOk] using hB) h _
  | look i r ih =>
    intro listed a w hF hB hA h
    simp only [Fj.fits, Bool.and_eq_true, decide_eq_true_eq] at hF
    simp only [forkJOk, Bool.and_eq_true] at hB
    obtain ⟨⟨hr, hf, hk⟩, hB'⟩ := hB
    have ho := nth_get l i hF.1
    have hl' : isLook (nth l i).op = true := by simpa [ho] using hk
    have hst : ∃ v, YieldsIf P l.toArray (Ex A) (nth l i) v a ∧ wpForkJ P l.toArray Q A (r.ops l) (a.put (nth l i).dst v) w := by
      unfold Fj.ops wpForkJ at h
      by_cases hw : Region.wanted (nth l i) (yielded l.toArray a.tmps) = true
      · rw [if_pos hw] at h
        obtain ⟨v, h1, h2⟩ := h
        refine ⟨v, .inl ⟨hw, fun w' hw' => ?_⟩, h2⟩
        have h3 := h1 w' hw'
        unfold Oper.quietAt at h3
        cases hrun : (execOp a.eval (nth l i)).run P w' with
        | ok x w1 =>
          obtain ⟨u, rfl⟩ := look_value hl' a.eval w' x w1 hrun
          rw [hrun] at h3
          simp only [Oper.quietUpon] at h3
          rw [h3.1, h3.2]
        | halt x w1 => rw [hrun] at h3; exact h3.elim
      · rw [if_neg hw] at h
        exact ⟨undef, .inr ⟨by simpa using hw, rfl⟩, h⟩
    obtain ⟨v, hy, hK⟩ := hst
    exact wpAnyH_take ho hsel hf hr (fun c a w => hQ c a _ _ w) hy hA (ih _ _ _ hF.2 hB' hA hK)
  | eff i r ih =>
    intro listed a w hF hB hA h
    simp only [Fj.fits, Bool.and_eq_true, decide_eq_true_eq] at hF
    simp only [forkJOk, Bool.and_eq_true, beq_iff_eq] at hB
    obtain ⟨hk, hB'⟩ := hB
    refine wpAnyH_all hk (by simp) fun j hj => ?_
    have hji : j = i := by simpa using hj
    subst hji
    exact wpOp_mono (fun a' w' h' => ⟨h'.1, ih _ _ _ hF.2 hB' h'.1 h'.2⟩) (effT_op (nth_get l j hF.1) hA h)
  | fork i x j y ihx ihy =>
    intro listed a w hF hB hA h
    simp only [Fj.fits, Bool.and_eq_true, decide_eq_true_eq, beq_iff_eq] at hF
    obtain ⟨⟨⟨⟨hi, hj⟩, hlen⟩, hfx⟩, hfy⟩ := hF
    simp only [forkJOk, Bool.and_eq_true, beq_iff_eq] at hB
    obtain ⟨⟨hk, hBx⟩, hBy⟩ := hB
    refine wpAnyH_all hk (by simp) fun q hq => ?_
    have hq2 : q = i ∨ q = j := by simpa using hq
    rcases hq2 with rfl | rfl
    · exact wpOp_mono (fun a' w' h' => ⟨h'.1, ihx _ _ _ hfx hBx h'.1 h'.2⟩) (effT_op (nth_get l q hi) hA h.1)
    · refine wpOp_mono (fun a' w' h' => ⟨h'.1, ?_⟩) (effT_op (nth_get l q hj) hA h.2)
      show wpAnyH P md l.toArray Q (Ex A) x.len _ a' w'
      rw [hlen]
      exact ihy _ _ _ hfy hBy h'.1 h'.2
  | three i x j y k z ihx ihy ihz =>
    intro listed a w hF hB hA h
    simp only [Fj.fits, Bool.and_eq_true, decide_eq_true_eq, beq_iff_eq] at hF
    obtain ⟨⟨⟨⟨⟨⟨⟨hi, hj⟩, hk'⟩, hlen⟩, hlen2⟩, hfx⟩, hfy⟩, hfz⟩ := hF
    simp only [forkJOk, Bool.and_eq_true, beq_iff_eq] at hB
    obtain ⟨⟨⟨hk, hBx⟩, hBy⟩, hBz⟩ := hB
    refine wpAnyH_all hk (by simp) fun q hq => ?_
    have hq2 : q = i ∨ q = j ∨ q = k := by simpa using hq
    rcases hq2 with rfl | rfl | rfl
    · exact wpOp_mono (fun a' w' h' => ⟨h'.1, ihx _ _ _ hfx hBx h'.1 h'.2⟩) (effT_op (nth_get l q hi) hA h.1)
    · refine wpOp_mono (fun a' w' h' => ⟨h'.1, ?_⟩) (effT_op (nth_get l q hj) hA h.2.1)
      show wpAnyH P md l.toArray Q (Ex A) x.len _ a' w'
      rw [hlen]
      exact ihy _ _ _ hfy hBy h'.1 h'.2
    · refine wpOp_mono (fun a' w' h' => ⟨h'.1, ?_⟩) (effT_op (nth_get l q hk') hA h.2.2)
      show wpAnyH P md l.toArray Q (Ex A) x.len _ a' w'
      rw [hlen2]
      exact ihz _ _ _ hfz hBz h'.1 h'.2
/-- **A tree of orders serves every order.** -/
theorem wp_region_forkJ {id : Nat} {a : Act} {w : World} {l : List Oper} (A : World) (t : Fj) (hA : Ex A w.drew) (hm : P.follows .mixedOrders = true)
    (hB : (Region.noSelect l.toArray && t.len == l.toArray.size && t.fits l.length && forkJOk .any l.toArray t (Array.replicate l.toArray.size false)) = true)
    (hQ : ∀ c a d v w, Q (.panic c) (a.put d v) w → Q (.panic c) a w)
    (h : wpForkJ P l.toArray Q A (t.ops l) a w.drew) : (Code.region id l.toArray true).wp P Q a w := by
  simp only [Bool.and_eq_true, beq_iff_eq] at hB
  obtain ⟨⟨⟨hsel, hlen⟩, hall⟩, hseq⟩ := hB
  refine wp_region_held (S := Ex A) hm ?_
  have H := wpAnyH_forkJ (md := .any) (P := P) (A := A) rfl hsel hQ t (Array.replicate l.toArray.size false) a w.drew hall hseq hA h
  rwa [hlen] at H
end
/-- What holds in the midst: the rest is walked once. -/
theorem wp_mid {P : Program} {c : Code} {K : Act → World → Prop} {Q : Exit → Act → World → Prop} {a : Act} {w : World} (R : Act → Act → World → Prop)
    (h1 : c.wp P (Exit.then (R a) Q) a w) (h2 : ∀ a' w', R a a' w' → Exit.then K Q .normal a' w') : c.wp P (Exit.then K Q) a w := by
  refine Code.wp_mono (fun x a' w' h => ?_) h1
  cases x <;> first | exact h2 _ _ h | exact h
end Go.Proofs.YtcdocklbpfdmeaaDoor
