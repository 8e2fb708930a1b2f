import Derived.Test.YtcdocklbpfdmeaaDoorMSeq
import Derived.Test.YtcdocklbpfdmeaaDoorMMem

/- A region that draws its order, walked in one order, over whatever is known of the worlds between. Over whatever program. -/
set_option linter.unusedSimpArgs false
set_option linter.unusedVariables false
set_option maxRecDepth 20000
namespace Go.Proofs.YtcdocklbpfdmeaaDoor
open Go.RowKit
/-- X where it agrees with A at the block b; else A. -/
noncomputable def fx (A : World) (b : Nat) (X : World) : World := open Classical in if X.heap[b]? = A.heap[b]? then X else A
theorem fx_heap (A : World) (b : Nat) (X : World) : (fx A b X).heap[b]? = A.heap[b]? := by
  unfold fx; split
  · assumption
  · rfl
@[go_sem high] theorem fx_cell (A : World) (b : Nat) (X : World) (o : Nat) : (fx A b X).cell? ⟨b, o, none⟩ = A.cell? ⟨b, o, none⟩ := by
  simp only [World.cell?, fx_heap]
@[go_sem high] theorem fx_cellsN (A : World) (b : Nat) (X : World) (o n : Nat) : cellsN (fx A b X) b o n = cellsN A b o n := cellsN_congr fun j _ => fx_cell A b X _
def MixQH (Q : Exit → Act → World → Prop) (R : Act → World → Prop) (H : World → Prop) : Exit → Act → World → Prop
  | .normal, a', w' => H w' ∧ R a' w'
  | e, a', w' => Q e a' w'
theorem mixQH_mk {Q : Exit → Act → World → Prop} {R : Act → World → Prop} {H : World → Prop} {a' : Act} {w' : World} (h : H w') (k : R a' w') : MixQH Q R H .normal a' w' := ⟨h, k⟩
theorem mixQH_wp {P : Program} {Q : Exit → Act → World → Prop} {R : Act → World → Prop} {o : Oper} {a : Act} {w : World} {H : World → Prop} {K : Act → World → Prop} (h : o.wp P a w K (MixQH Q R H)) : o.wp P a w K Q := by
  unfold Oper.wp at *
  generalize (execOp a.eval o).run P w = r at *
  cases r with
  | ok n w' =>
    cases n <;> simp only [Oper.upon] at h ⊢ <;>
      first
        | exact h
        | exact Calls.mono h (fun e w'' he => by cases e <;> exact he)
  | halt x w' => cases x <;> simp only [Oper.upon] at h ⊢ <;> exact h
section
variable {P : Program} {ops : Array Oper} {Q : Exit → Act → World → Prop} {md : Region.Mode}
end
end Go.Proofs.YtcdocklbpfdmeaaDoor

/- A region that draws its order, whose loads wait for no store and whose first store waits for all of them: walked in one order. Over whatever program. -/
set_option linter.unusedSimpArgs false
set_option linter.unusedVariables false
set_option linter.unnecessarySimpa false
set_option maxRecDepth 20000
namespace Go.Proofs.YtcdocklbpfdmeaaDoor
open Go.RowKit
section
variable {P : Program} {ops : Array Oper} {Q : Exit → Act → World → Prop} {md : Region.Mode} {S : World → Prop} {T : Nat}
/-- Whatever order is picked, and S holds until T has come up. -/
def wpAnyT (P : Program) (md : Region.Mode) (ops : Array Oper) (Q : Exit → Act → World → Prop) (S : World → Prop) (T : Nat) : Nat → Array Bool → Act → World → Prop
  | 0, listed, a, w => Region.ready md ops listed = [] ∧ Q .normal a w
  | fuel + 1, listed, a, w =>
    (Region.ready md ops listed = [] → Q .normal a w) ∧
    ∀ i ∈ Region.ready md ops listed, wpOp P ops Q i (fun a' w' => ((listed.setIfInBounds i true).getD T true = false → S w') ∧ wpAnyT P md ops Q S T fuel (listed.setIfInBounds i true) a' w') a w
theorem wpAny_of_T : ∀ (fuel : Nat) (listed : Array Bool) (a : Act) (w : World), wpAnyT P md ops Q S T fuel listed a w → wpAny P md ops Q fuel listed a w
  | 0, _, _, _, h => h
  | fuel + 1, _, _, _, h => ⟨h.1, fun i hi => wpOp_mono (fun a' w' h' => wpAny_of_T fuel _ a' w' h'.2) (h.2 i hi)⟩
/-- An operation that T waits for, or that yields in whatever world, may be taken first. -/
theorem wpAnyT_first {i : Nat} {oi : Oper} {v : Value} {R : World → Prop} (hi : ops[i]? = some oi) (hsel : ∀ (j : Nat) (o : Oper) cs b, ops[j]? = some o → o.op ≠ .select cs b)
    (hQ : ∀ c a w, Q (.panic c) (a.put oi.dst v) w → Q (.panic c) a w)
    (hTi : T ≠ i) (hR : (∀ w, R w) ∨ ((∃ ot, ops[T]? = some ot ∧ ∃ e ∈ ot.after, Region.binds md e = true ∧ e.on = i) ∧ ∀ w, S w → R w)) :
    ∀ (fuel : Nat) (listed : Array Bool) (a : Act) (w : World),
      (∀ j oj, ops[j]? = some oj → j ≠ i → listed.getD j true = false → (∀ e ∈ oj.after, Region.binds md e = true → e.on ≠ i) → oi.apart ops oj = true) →
      i ∈ Region.ready md ops listed → YieldsIf P ops R oi v a → (listed.getD T true = false ∨ ∀ w, R w) → (listed.getD T true = false → S w) →
      wpAnyT P md ops Q S T fuel (listed.setIfInBounds i true) (a.put oi.dst v) w → wpAnyT P md ops Q S T (fuel + 1) listed a w := by
  have hRw : ∀ (listed : Array Bool) w, (listed.getD T true = false ∨ ∀ w, R w) → (listed.getD T true = false → S w) → R w := fun listed w h1 h2 => by
    rcases h1 with h1 | h1
    · rcases hR with h | ⟨_, h⟩
      · exact h w
      · exact h w (h2 h1)
    · exact h1 w
  intro fuel
  induction fuel with
  | zero =>
    intro listed a w _ hr hy hT hS H
    refine ⟨fun h => (by rw [h] at hr; cases hr), fun j hj => ?_⟩
    by_cases hji : j = i
    · subst hji
      exact hy.wpOp hi (hRw listed w hT hS) ⟨fun h => hS (by rwa [getD_set_ne true (Ne.symm hTi)] at h), H⟩
    · have := ready_mono hj hji
      rw [H.1] at this
      cases this
  | succ fuel ih =>
    intro listed a w hfree hr hy hT hS H
    refine ⟨fun h => (by rw [h] at hr; cases hr), fun j hj => ?_⟩
    by_cases hji : j = i
    · subst hji
      exact hy.wpOp hi (hRw listed w hT hS) ⟨fun h => hS (by rwa [getD_set_ne true (Ne.symm hTi)] at h), H⟩
    · have h1 := H.2 j (ready_mono hj hji)
      obtain ⟨hjun, oj, hoj, hall⟩ := mem_ready.1 hj
      have hnot : ∀ e ∈ oj.after, Region.binds md e = true → e.on ≠ i := fun e he hb heq => by
        have h1 := hall e he hb
        have h0 := (mem_ready.1 hr).1
        rw [heq] at h1
        rcases Nat.lt_or_ge i listed.size with h' | h'
        · simp [h'] at h0 h1; rw [h0] at h1; cases h1
        · simp [Array.getElem?_eq_none h'] at h1
      have h2 := wpOp_putIf hoj (hfree j oj hoj hji hjun hnot) (fun cs b => hsel i oi cs b hi) (fun cs b => hsel j oj cs b hoj) hQ hy h1
      have hfree' : ∀ k ok, ops[k]? = some ok → k ≠ i → (listed.setIfInBounds j true).getD k true = false →
          (∀ e ∈ ok.after, Region.binds md e = true → e.on ≠ i) → oi.apart ops ok = true := fun k ok hk hki hun hno => by
        refine hfree k ok hk hki ?_ hno
        by_cases hjk : j = k
        · subst hjk; exact hjun
        · rw [getD_set_ne true hjk] at hun; exact hun
      have hT' : (listed.setIfInBounds j true).getD T true = false ∨ ∀ w, R w := by
        rcases hT with hT | hT
        · rcases hR with hR | ⟨⟨ot, hot, e, he, hb, hei⟩, _⟩
          · exact Or.inr hR
          · have hjT : j ≠ T := fun h => by
              subst h
              rw [hoj] at hot
              obtain rfl := Option.some.inj hot
              exact hnot e he hb hei
            exact Or.inl (by rw [getD_set_ne true hjT]; exact hT)
        · exact Or.inr hT
      refine wpOp_mono (fun a' w' h3 => ?_) h2
      have h4 : (listed.setIfInBounds j true).getD T true = false → S w' := fun h => h3.2.1 (by
        rw [← Array.setIfInBounds_comm _ _ hji, getD_set_ne true (Ne.symm hTi)]; exact h)
      refine ⟨h4, ih (listed.setIfInBounds j true) a' w' hfree' (ready_mono hr (Ne.symm hji)) h3.1 hT' h4 ?_⟩
      rw [Array.setIfInBounds_comm _ _ hji]
      exact h3.2.2
/-- One order: kind 0, a look that reads no memory; 1, a load that T waits for; else an effect, the first of them T. -/
def wpSeqT (P : Program) (ops : Array Oper) (Q : Exit → Act → World → Prop) (S : World → Prop) : List (Oper × Nat) → Act → World → Prop
  | [], a, w => Q .normal a w
  | (o, 0) :: r, a, w => if Region.wanted o (yielded ops a.tmps) then o.quiet P a (fun w' => ∃ X : World, w' = X) (fun a' => wpSeqT P ops Q S r a' w) else wpSeqT P ops Q S r (a.put o.dst undef) w
  | (o, 1) :: r, a, w => if Region.wanted o (yielded ops a.tmps) then o.quiet P a S (fun a' => wpSeqT P ops Q S r a' w) else wpSeqT P ops Q S r (a.put o.dst undef) w
  | (o, _) :: r, a, w => if Region.wanted o (yielded ops a.tmps) then (o.wp P a w (fun a' w' => wpSeqT P ops Q S r a' w') Q ∨ (o.asks P a w ∧ LetsOut Q)) else wpSeqT P ops Q S r (a.put o.dst undef) w
theorem wpSeqT_look {o : Oper} {r : List (Oper × Nat)} {a : Act} {w : World}
    (h : wpQuiet P ops (fun w' => ∃ X : World, w' = X) (fun a' => wpSeqT P ops Q S r a' w) [o] a) : wpSeqT P ops Q S ((o, 0) :: r) a w := h
theorem wpSeqT_load {o : Oper} {r : List (Oper × Nat)} {a : Act} {w : World}
    (h : wpQuiet P ops S (fun a' => wpSeqT P ops Q S r a' w) [o] a) : wpSeqT P ops Q S ((o, 1) :: r) a w := h
theorem wpSeqT_two {o : Oper} {k : Nat} {r : List (Oper × Nat)} {a : Act} {w : World} : wpSeqT P ops Q S ((o, k + 2) :: r) a w = (if Region.wanted o (yielded ops a.tmps) then (o.wp P a w (fun a' w' => wpSeqT P ops Q S r a' w') Q ∨ (o.asks P a w ∧ LetsOut Q)) else wpSeqT P ops Q S r (a.put o.dst undef) w) := rfl
theorem wpSeqT_eff {o : Oper} {r : List (Oper × Nat)} {a : Act} {w : World} (hw : Region.wanted o (yielded ops a.tmps) = true)
    (h : wpList P ops (MixQH Q (wpSeqT P ops Q S r) fun _ => True) [{ o with guard := none }] a w) : wpSeqT P ops Q S ((o, 2) :: r) a w := by
  rw [wpSeqT_two (k := 0), if_pos hw]
  unfold wpList at h
  rw [if_pos (by simp [Region.wanted])] at h
  rcases h with h | ⟨h1, h2⟩
  · exact .inl (Oper.wp_mono (fun a' w' h' => h'.2) (mixQH_wp (Oper.wp_mono (fun a' w' h' => h') h)))
  · exact .inr ⟨h1, h2⟩
theorem wpSeqT_effF {o : Oper} {r : List (Oper × Nat)} {a : Act} {w : World} (hw : Region.wanted o (yielded ops a.tmps) = false)
    (h : wpSeqT P ops Q S r (a.put o.dst undef) w) : wpSeqT P ops Q S ((o, 2) :: r) a w := by
  rw [wpSeqT_two (k := 0), hw]
  exact h
theorem wpSeqT_nil {a : Act} {w : World} (h : Q .normal a w) : wpSeqT P ops Q S [] a w := h
def seqOkT (md : Region.Mode) (ops : Array Oper) (T : Nat) : List (Nat × Nat) → Array Bool → Bool
  | [], listed => Region.ready md ops listed == []
  | (i, 0) :: r, listed => (Region.ready md ops listed).contains i && (Region.free md ops listed i && ((ops[i]?).map (fun o => isLook o.op)).getD false) && !(T == i) && seqOkT md ops T r (listed.setIfInBounds i true)
  | (i, 1) :: r, listed => (Region.ready md ops listed).contains i && (Region.free md ops listed i && ((ops[i]?).map (fun o => isLook o.op)).getD false) && !(T == i) && (!(listed.getD T true) && ((ops[T]?).map (fun o => o.after.any fun e => Region.binds md e && e.on == i)).getD false) && seqOkT md ops T r (listed.setIfInBounds i true)
  | (i, _) :: r, listed => (Region.ready md ops listed == [i] && (listed.setIfInBounds i true).getD T true) && seqOkT md ops T r (listed.setIfInBounds i true)
theorem quiet_yields {o : Oper} {R : World → Prop} {a : Act} {K : Act → Prop} (hl' : isLook o.op = true)
    (h : if Region.wanted o (yielded ops a.tmps) then o.quiet P a R K else K (a.put o.dst undef)) : ∃ v, YieldsIf P ops R o v a ∧ K (a.put o.dst v) := by
  by_cases hw : Region.wanted o (yielded ops a.tmps) = true
  · rw [if_pos hw] at h
    obtain ⟨v, h1, h2⟩ := h
    refine ⟨v, .inl ⟨hw, fun w' hw' => ?_⟩, h2⟩
    have h3 := h1 w' hw'
    unfold Oper.quietAt at h3
    cases hrun : (execOp a.eval o).run P w' with
    | ok x w1 =>
      obtain ⟨u, rfl⟩ := look_value hl' a.eval w' x w1 hrun
      rw [hrun] at h3
      simp only [Oper.quietUpon] at h3
      rw [h3.1, h3.2]
    | halt x w1 => rw [hrun] at h3; exact h3.elim
  · rw [if_neg hw] at h
    exact ⟨undef, .inr ⟨by simpa using hw, rfl⟩, h⟩
theorem wpAnyT_seq (hsel : Region.noSelect ops = true) (hQ : ∀ c a d v w, Q (.panic c) (a.put d v) w → Q (.panic c) a w) :
    ∀ (l : List (Nat × Nat)) (m : List (Oper × Nat)) (listed : Array Bool) (a : Act) (w : World), l.map (fun x => (ops[x.1]?, x.2)) = m.map (fun x => (some x.1, x.2)) → seqOkT md ops T l listed = true → (listed.getD T true = false → S w) →
      wpSeqT P ops Q S m a w → wpAnyT P md ops Q S T l.length listed a w := by
  intro l
  induction l with
  | nil =>
    intro m listed a w hm hB hA h
    cases m with
    | nil => exact ⟨by simpa [seqOkT] using hB, h⟩
    | cons x m => cases hm
  | cons x l ih =>
    intro m listed a w hm hB hA h
    obtain ⟨i, kd⟩ := x
    cases m with
    | nil => cases hm
    | cons y m =>
      obtain ⟨o, kd'⟩ := y
      simp only [List.map_cons, List.cons.injEq, Prod.mk.injEq] at hm
      obtain ⟨⟨ho, rfl⟩, hm⟩ := hm
      match kd, hB, h with
      | 0, hB, h =>
        simp only [seqOkT, Bool.and_eq_true, Bool.not_eq_true', beq_eq_false_iff_ne] at hB
        obtain ⟨⟨⟨hr, hf, hl⟩, hTi⟩, hB'⟩ := hB
        have hl' : isLook o.op = true := by simpa [ho] using hl
        obtain ⟨v, hy, hK⟩ := quiet_yields hl' (K := fun a' => wpSeqT P ops Q S m a' w) h
        exact wpAnyT_first (R := fun w' => ∃ X : World, w' = X) ho (Region.noSelect_spec hsel) (fun c a w => hQ c a _ _ w) hTi (Or.inl fun w => ⟨w, rfl⟩) l.length listed a w (Region.free_spec ho hf) (by simpa using hr) hy (Or.inr fun w => ⟨w, rfl⟩) hA
          (ih m _ _ _ hm hB' (fun hh => hA (by rwa [getD_set_ne true (Ne.symm hTi)] at hh)) hK)
      | 1, hB, h =>
        simp only [seqOkT, Bool.and_eq_true, Bool.not_eq_true', beq_eq_false_iff_ne] at hB
        obtain ⟨⟨⟨⟨hr, hf, hl⟩, hTi⟩, hT, hW⟩, hB'⟩ := hB
        have hl' : isLook o.op = true := by simpa [ho] using hl
        obtain ⟨v, hy, hK⟩ := quiet_yields hl' (K := fun a' => wpSeqT P ops Q S m a' w) h
        have hW' : ∃ ot, ops[T]? = some ot ∧ ∃ e ∈ ot.after, Region.binds md e = true ∧ e.on = i := by
          cases hot : ops[T]? with
          | none => rw [hot] at hW; cases hW
          | some ot =>
            rw [hot] at hW
            have hW : (ot.after.any fun e => Region.binds md e && e.on == i) = true := hW
            obtain ⟨k, hk, h1⟩ := Array.any_eq_true.1 hW
            simp only [Bool.and_eq_true, beq_iff_eq] at h1
            exact ⟨ot, rfl, _, Array.getElem_mem hk, h1.1, h1.2⟩
        exact wpAnyT_first (R := S) ho (Region.noSelect_spec hsel) (fun c a w => hQ c a _ _ w) hTi (Or.inr ⟨hW', fun _ h => h⟩) l.length listed a w (Region.free_spec ho hf) (by simpa using hr) hy (Or.inl hT) hA
          (ih m _ _ _ hm hB' (fun hh => hA (by rwa [getD_set_ne true (Ne.symm hTi)] at hh)) hK)
      | k + 2, hB, h =>
        simp only [seqOkT, Bool.and_eq_true, beq_iff_eq] at hB
        obtain ⟨⟨hk, hT⟩, hB'⟩ := hB
        show wpAnyT P md ops Q S T (l.length + 1) listed a w
        refine ⟨fun h0 => (by rw [h0] at hk; cases hk), fun j hj => ?_⟩
        have hji : j = i := by rw [hk] at hj; simpa using hj
        subst hji
        rw [wpSeqT_two] at h
        unfold wpOp
        simp only [ho]
        have hv : ∀ w' : World, (listed.setIfInBounds j true).getD T true = false → S w' := fun w' hh => by rw [hT] at hh; cases hh
        by_cases hw : Region.wanted o (yielded ops a.tmps) = true
        · rw [if_pos hw] at h ⊢
          rcases h with h | h
          · exact .inl (Oper.wp_mono (fun a' w' h' => ⟨hv w', ih m _ _ _ hm hB' (hv w') h'⟩) h)
          · exact .inr h
        · rw [if_neg hw] at h ⊢
          exact ⟨hv w, ih m _ _ _ hm hB' (hv w) h⟩
theorem wp_region_T {id : Nat} {a : Act} {w : World} {l : List Oper} (S : World → Prop) (T : Nat) (order : List (Nat × Nat)) (hA : S w.drew) (hm : P.follows .mixedOrders = true)
    (hB : (Region.noSelect l.toArray && order.length == l.toArray.size && order.all (fun x => decide (x.1 < l.length)) && seqOkT .any l.toArray T order (Array.replicate l.toArray.size false)) = true)
    (hQ : ∀ c a d v w, Q (.panic c) (a.put d v) w → Q (.panic c) a w)
    (h : wpSeqT P l.toArray Q S (order.map fun x => (nth l x.1, x.2)) a w.drew) : (Code.region id l.toArray true).wp P Q a w := by
  simp only [Bool.and_eq_true, beq_iff_eq, List.all_eq_true, decide_eq_true_eq] at hB
  obtain ⟨⟨⟨hsel, hlen⟩, hall⟩, hseq⟩ := hB
  refine wp_region_any hm (wpAny_of_T (S := S) (T := T) _ _ _ _ ?_)
  have H1 := wpAnyT_seq (md := .any) (P := P) (S := S) (T := T) hsel hQ order (order.map fun x => (nth l x.1, x.2)) (Array.replicate l.toArray.size false) a w.drew (by
    simp only [List.map_map]
    refine List.map_congr_left fun x hx => ?_
    simp only [Function.comp, Prod.mk.injEq, and_true]
    exact nth_get l x.1 (hall x hx)) hseq (fun _ => hA) h
  rwa [hlen] at H1
end
end Go.Proofs.YtcdocklbpfdmeaaDoor
