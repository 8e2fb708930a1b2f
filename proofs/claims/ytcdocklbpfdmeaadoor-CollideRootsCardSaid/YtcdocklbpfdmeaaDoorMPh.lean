import Derived.Test.YtcdocklbpfdmeaaDoorMSeqH
import Derived.Test.YtcdocklbpfdmeaaDoorMRtA
import Derived.WalkSpells
import Derived.ArgAppend

/- A region that draws its order, whose loads wait for no store and whose first store waits for all of them: walked in one order. Over whatever program. -/
set_option linter.unusedSimpArgs false
set_option linter.unusedVariables false
set_option linter.unnecessarySimpa false
set_option maxRecDepth 20000
namespace Go.Proofs.YtcdocklbpfdmeaaDoor
open Go.RowKit
section
variable {P : Program} {ops : Array Oper} {Q : Exit → Act → World → Prop} {md : Region.Mode} {S : World → Prop} {T : Nat}
/-- Whatever order is picked, and S holds until T has come up. -/
def wpAnyT (P : Program) (md : Region.Mode) (ops : Array Oper) (Q : Exit → Act → World → Prop) (S : World → Prop) (T : Nat) : Nat → Array Bool → Act → World → Prop
  | 0, listed, a, w => Region.ready md ops listed = [] ∧ Q .normal a w
  | fuel + 1, listed, a, w =>
    (Region.ready md ops listed = [] → Q .normal a w) ∧
    ∀ i ∈ Region.ready md ops listed, wpOp P ops Q i (fun a' w' => ((listed.setIfInBounds i true).getD T true = false → S w') ∧ wpAnyT P md ops Q S T fuel (listed.setIfInBounds i true) a' w') a w
theorem wpAny_of_T : ∀ (fuel : Nat) (listed : Array Bool) (a : Act) (w : World), wpAnyT P md ops Q S T fuel listed a w → wpAny P md ops Q fuel listed a w
  | 0, _, _, _, h => h
  | fuel + 1, _, _, _, h => ⟨h.1, fun i hi => wpOp_mono (fun a' w' h' => wpAny_of_T fuel _ a' w' h'.2) (h.2 i hi)⟩
/-- An operation that T waits for, or that yields in whatever world, may be taken first. -/
theorem wpAnyT_first {i : Nat} {oi : Oper} {v : Value} {R : World → Prop} (hi : ops[i]? = some oi) (hsel : ∀ (j : Nat) (o : Oper) cs b, ops[j]? = some o → o.op ≠ .select cs b)
    (hQ : ∀ c a w, Q (.panic c) (a.put oi.dst v) w → Q (.panic c) a w)
    (hTi : T ≠ i) (hR : (∀ w, R w) ∨ ((∃ ot, ops[T]? = some ot ∧ ∃ e ∈ ot.after, Region.binds md e = true ∧ e.on = i) ∧ ∀ w, S w → R w)) :
    ∀ (fuel : Nat) (listed : Array Bool) (a : Act) (w : World),
      (∀ j oj, ops[j]? = some oj → j ≠ i → listed.getD j true = false → (∀ e ∈ oj.after, Region.binds md e = true → e.on ≠ i) → oi.apart ops oj = true) →
      i ∈ Region.ready md ops listed → YieldsIf P ops R oi v a → (listed.getD T true = false ∨ ∀ w, R w) → (listed.getD T true = false → S w) →
      wpAnyT P md ops Q S T fuel (listed.setIfInBounds i true) (a.put oi.dst v) w → wpAnyT P md ops Q S T (fuel + 1) listed a w := by
  have hRw : ∀ (listed : Array Bool) w, (listed.getD T true = false ∨ ∀ w, R w) → (listed.getD T true = false → S w) → R w := fun listed w h1 h2 => by
    rcases h1 with h1 | h1
    · rcases hR with h | ⟨_, h⟩
      · exact h w
      · exact h w (h2 h1)
    · exact h1 w
  intro fuel
  induction fuel with
  | zero =>
    intro listed a w _ hr hy hT hS H
    refine ⟨fun h => (by rw [h] at hr; cases hr), fun j hj => ?_⟩
    by_cases hji : j = i
    · subst hji
      exact hy.wpOp hi (hRw listed w hT hS) ⟨fun h => hS (by rwa [getD_set_ne true (Ne.symm hTi)] at h), H⟩
    · have := ready_mono hj hji
      rw [H.1] at this
      cases this
  | succ fuel ih =>
    intro listed a w hfree hr hy hT hS H
    refine ⟨fun h => (by rw [h] at hr; cases hr), fun j hj => ?_⟩
    by_cases hji : j = i
    · subst hji
      exact hy.wpOp hi (hRw listed w hT hS) ⟨fun h => hS (by rwa [getD_set_ne true (Ne.symm hTi)] at h), H⟩
    · have h1 := H.2 j (ready_mono hj hji)
      obtain ⟨hjun, oj, hoj, hall⟩ := mem_ready.1 hj
      have hnot : ∀ e ∈ oj.after, Region.binds md e = true → e.on ≠ i := fun e he hb heq => by
        have h1 := hall e he hb
        have h0 := (mem_ready.1 hr).1
        rw [heq] at h1
        rcases Nat.lt_or_ge i listed.size with h' | h'
        · simp [h'] at h0 h1; rw [h0] at h1; cases h1
        · simp [Array.getElem?_eq_none h'] at h1
      have h2 := wpOp_putIf hoj (hfree j oj hoj hji hjun hnot) (fun cs b => hsel i oi cs b hi) (fun cs b => hsel j oj cs b hoj) hQ hy h1
      have hfree' : ∀ k ok, ops[k]? = some ok → k ≠ i → (listed.setIfInBounds j true).getD k true = false →
          (∀ e ∈ ok.after, Region.binds md e = true → e.on ≠ i) → oi.apart ops ok = true := fun k ok hk hki hun hno => by
        refine hfree k ok hk hki ?_ hno
        by_cases hjk : j = k
        · subst hjk; exact hjun
        · rw [getD_set_ne true hjk] at hun; exact hun
      have hT' : (listed.setIfInBounds j true).getD T true = false ∨ ∀ w, R w := by
        rcases hT with hT | hT
        · rcases hR with hR | ⟨⟨ot, hot, e, he, hb, hei⟩, _⟩
          · exact Or.inr hR
          · have hjT : j ≠ T := fun h => by
              subst h
              rw [hoj] at hot
              obtain rfl := Option.some.inj hot
              exact hnot e he hb hei
            exact Or.inl (by rw [getD_set_ne true hjT]; exact hT)
        · exact Or.inr hT
      refine wpOp_mono (fun a' w' h3 => ?_) h2
      have h4 : (listed.setIfInBounds j true).getD T true = false → S w' := fun h => h3.2.1 (by
        rw [← Array.setIfInBounds_comm _ _ hji, getD_set_ne true (Ne.symm hTi)]; exact h)
      refine ⟨h4, ih (listed.setIfInBounds j true) a' w' hfree' (ready_mono hr (Ne.symm hji)) h3.1 hT' h4 ?_⟩
      rw [Array.setIfInBounds_comm _ _ hji]
      exact h3.2.2
/-- One order: kind 0, a look that reads no memory; 1, a load that T waits for; else an effect, the first of them T. -/
def wpSeqT (P : Program) (ops : Array Oper) (Q : Exit → Act → World → Prop) (S : World → Prop) : List (Oper × Nat) → Act → World → Prop
  | [], a, w => Q .normal a w
  | (o, 0) :: r, a, w => if Region.wanted o (yielded ops a.tmps) then o.quiet P a (fun w' => ∃ X : World, w' = X) (fun a' => wpSeqT P ops Q S r a' w) else wpSeqT P ops Q S r (a.put o.dst undef) w
  | (o, 1) :: r, a, w => if Region.wanted o (yielded ops a.tmps) then o.quiet P a S (fun a' => wpSeqT P ops Q S r a' w) else wpSeqT P ops Q S r (a.put o.dst undef) w
  | (o, _) :: r, a, w => if Region.wanted o (yielded ops a.tmps) then (o.wp P a w (fun a' w' => wpSeqT P ops Q S r a' w') Q ∨ (o.asks P a w ∧ LetsOut Q)) else wpSeqT P ops Q S r (a.put o.dst undef) w
theorem wpSeqT_look {o : Oper} {r : List (Oper × Nat)} {a : Act} {w : World}
    (h : wpQuiet P ops (fun w' => ∃ X : World, w' = X) (fun a' => wpSeqT P ops Q S r a' w) [o] a) : wpSeqT P ops Q S ((o, 0) :: r) a w := h
theorem wpSeqT_load {o : Oper} {r : List (Oper × Nat)} {a : Act} {w : World}
    (h : wpQuiet P ops S (fun a' => wpSeqT P ops Q S r a' w) [o] a) : wpSeqT P ops Q S ((o, 1) :: r) a w := h
theorem wpSeqT_two {o : Oper} {k : Nat} {r : List (Oper × Nat)} {a : Act} {w : World} : wpSeqT P ops Q S ((o, k + 2) :: r) a w = (if Region.wanted o (yielded ops a.tmps) then (o.wp P a w (fun a' w' => wpSeqT P ops Q S r a' w') Q ∨ (o.asks P a w ∧ LetsOut Q)) else wpSeqT P ops Q S r (a.put o.dst undef) w) := rfl
theorem wpSeqT_eff {o : Oper} {r : List (Oper × Nat)} {a : Act} {w : World} (hw : Region.wanted o (yielded ops a.tmps) = true)
    (h : wpList P ops (MixQH Q (wpSeqT P ops Q S r) fun _ => True) [{ o with guard := none }] a w) : wpSeqT P ops Q S ((o, 2) :: r) a w := by
  rw [wpSeqT_two (k := 0), if_pos hw]
  unfold wpList at h
  rw [if_pos (by simp [Region.wanted])] at h
  rcases h with h | ⟨h1, h2⟩
  · exact .inl (Oper.wp_mono (fun a' w' h' => h'.2) (mixQH_wp (Oper.wp_mono (fun a' w' h' => h') h)))
  · exact .inr ⟨h1, h2⟩
theorem wpSeqT_effF {o : Oper} {r : List (Oper × Nat)} {a : Act} {w : World} (hw : Region.wanted o (yielded ops a.tmps) = false)
    (h : wpSeqT P ops Q S r (a.put o.dst undef) w) : wpSeqT P ops Q S ((o, 2) :: r) a w := by
  rw [wpSeqT_two (k := 0), hw]
  exact h
theorem wpSeqT_nil {a : Act} {w : World} (h : Q .normal a w) : wpSeqT P ops Q S [] a w := h
def seqOkT (md : Region.Mode) (ops : Array Oper) (T : Nat) : List (Nat × Nat) → Array Bool → Bool
  | [], listed => Region.ready md ops listed == []
  | (i, 0) :: r, listed => (Region.ready md ops listed).contains i && (Region.free md ops listed i && ((ops[i]?).map (fun o => isLook o.op)).getD false) && !(T == i) && seqOkT md ops T r (listed.setIfInBounds i true)
  | (i, 1) :: r, listed => (Region.ready md ops listed).contains i && (Region.free md ops listed i && ((ops[i]?).map (fun o => isLook o.op)).getD false) && !(T == i) && (!(listed.getD T true) && ((ops[T]?).map (fun o => o.after.any fun e => Region.binds md e && e.on == i)).getD false) && seqOkT md ops T r (listed.setIfInBounds i true)
  | (i, _) :: r, listed => (Region.ready md ops listed == [i] && (listed.setIfInBounds i true).getD T true) && seqOkT md ops T r (listed.setIfInBounds i true)
theorem quiet_yields {o : Oper} {R : World → Prop} {a : Act} {K : Act → Prop} (hl' : isLook o.op = true)
    (h : if Region.wanted o (yielded ops a.tmps) then o.quiet P a R K else K (a.put o.dst undef)) : ∃ v, YieldsIf P ops R o v a ∧ K (a.put o.dst v) := by
  by_cases hw : Region.wanted o (yielded ops a.tmps) = true
  · rw [if_pos hw] at h
    obtain ⟨v, h1, h2⟩ := h
    refine ⟨v, .inl ⟨hw, fun w' hw' => ?_⟩, h2⟩
    have h3 := h1 w' hw'
    unfold Oper.quietAt at h3
    cases hrun : (execOp a.eval o).run P w' with
    | ok x w1 =>
      obtain ⟨u, rfl⟩ := look_value hl' a.eval w' x w1 hrun
      rw [hrun] at h3
      simp only [Oper.quietUpon] at h3
      rw [h3.1, h3.2]
    | halt x w1 => rw [hrun] at h3; exact h3.elim
  · rw [if_neg hw] at h
    exact ⟨undef, .inr ⟨by simpa using hw, rfl⟩, h⟩
theorem wpAnyT_seq (hsel : Region.noSelect ops = true) (hQ : ∀ c a d v w, Q (.panic c) (a.put d v) w → Q (.panic c) a w) :
    ∀ (l : List (Nat × Nat)) (m : List (Oper × Nat)) (listed : Array Bool) (a : Act) (w : World), l.map (fun x => (ops[x.1]?, x.2)) = m.map (fun x => (some x.1, x.2)) → seqOkT md ops T l listed = true → (listed.getD T true = false → S w) →
      wpSeqT P ops Q S m a w → wpAnyT P md ops Q S T l.length listed a w := by
  intro l
  induction l with
  | nil =>
    intro m listed a w hm hB hA h
    cases m with
    | nil => exact ⟨by simpa [seqOkT] using hB, h⟩
    | cons x m => cases hm
  | cons x l ih =>
    intro m listed a w hm hB hA h
    obtain ⟨i, kd⟩ := x
    cases m with
    | nil => cases hm
    | cons y m =>
      obtain ⟨o, kd'⟩ := y
      simp only [List.map_cons, List.cons.injEq, Prod.mk.injEq] at hm
      obtain ⟨⟨ho, rfl⟩, hm⟩ := hm
      match kd, hB, h with
      | 0, hB, h =>
        simp only [seqOkT, Bool.and_eq_true, Bool.not_eq_true', beq_eq_false_iff_ne] at hB
        obtain ⟨⟨⟨hr, hf, hl⟩, hTi⟩, hB'⟩ := hB
        have hl' : isLook o.op = true := by simpa [ho] using hl
        obtain ⟨v, hy, hK⟩ := quiet_yields hl' (K := fun a' => wpSeqT P ops Q S m a' w) h
        exact wpAnyT_first (R := fun w' => ∃ X : World, w' = X) ho (Region.noSelect_spec hsel) (fun c a w => hQ c a _ _ w) hTi (Or.inl fun w => ⟨w, rfl⟩) l.length listed a w (Region.free_spec ho hf) (by simpa using hr) hy (Or.inr fun w => ⟨w, rfl⟩) hA
          (ih m _ _ _ hm hB' (fun hh => hA (by rwa [getD_set_ne true (Ne.symm hTi)] at hh)) hK)
      | 1, hB, h =>
        simp only [seqOkT, Bool.and_eq_true, Bool.not_eq_true', beq_eq_false_iff_ne] at hB
        obtain ⟨⟨⟨⟨hr, hf, hl⟩, hTi⟩, hT, hW⟩, hB'⟩ := hB
        have hl' : isLook o.op = true := by simpa [ho] using hl
        obtain ⟨v, hy, hK⟩ := quiet_yields hl' (K := fun a' => wpSeqT P ops Q S m a' w) h
        have hW' : ∃ ot, ops[T]? = some ot ∧ ∃ e ∈ ot.after, Region.binds md e = true ∧ e.on = i := by
          cases hot : ops[T]? with
          | none => rw [hot] at hW; cases hW
          | some ot =>
            rw [hot] at hW
            have hW : (ot.after.any fun e => Region.binds md e && e.on == i) = true := hW
            obtain ⟨k, hk, h1⟩ := Array.any_eq_true.1 hW
            simp only [Bool.and_eq_true, beq_iff_eq] at h1
            exact ⟨ot, rfl, _, Array.getElem_mem hk, h1.1, h1.2⟩
        exact wpAnyT_first (R := S) ho (Region.noSelect_spec hsel) (fun c a w => hQ c a _ _ w) hTi (Or.inr ⟨hW', fun _ h => h⟩) l.length listed a w (Region.free_spec ho hf) (by simpa using hr) hy (Or.inl hT) hA
          (ih m _ _ _ hm hB' (fun hh => hA (by rwa [getD_set_ne true (Ne.symm hTi)] at hh)) hK)
      | k + 2, hB, h =>
        simp only [seqOkT, Bool.and_eq_true, beq_iff_eq] at hB
        obtain ⟨⟨hk, hT⟩, hB'⟩ := hB
        show wpAnyT P md ops Q S T (l.length + 1) listed a w
        refine ⟨fun h0 => (by rw [h0] at hk; cases hk), fun j hj => ?_⟩
        have hji : j = i := by rw [hk] at hj; simpa using hj
        subst hji
        rw [wpSeqT_two] at h
        unfold wpOp
        simp only [ho]
        have hv : ∀ w' : World, (listed.setIfInBounds j true).getD T true = false → S w' := fun w' hh => by rw [hT] at hh; cases hh
        by_cases hw : Region.wanted o (yielded ops a.tmps) = true
        · rw [if_pos hw] at h ⊢
          rcases h with h | h
          · exact .inl (Oper.wp_mono (fun a' w' h' => ⟨hv w', ih m _ _ _ hm hB' (hv w') h'⟩) h)
          · exact .inr h
        · rw [if_neg hw] at h ⊢
          exact ⟨hv w, ih m _ _ _ hm hB' (hv w) h⟩
theorem wp_region_T {id : Nat} {a : Act} {w : World} {l : List Oper} (S : World → Prop) (T : Nat) (order : List (Nat × Nat)) (hA : S w.drew) (hm : P.follows .mixedOrders = true)
    (hB : (Region.noSelect l.toArray && order.length == l.toArray.size && order.all (fun x => decide (x.1 < l.length)) && seqOkT .any l.toArray T order (Array.replicate l.toArray.size false)) = true)
    (hQ : ∀ c a d v w, Q (.panic c) (a.put d v) w → Q (.panic c) a w)
    (h : wpSeqT P l.toArray Q S (order.map fun x => (nth l x.1, x.2)) a w.drew) : (Code.region id l.toArray true).wp P Q a w := by
  simp only [Bool.and_eq_true, beq_iff_eq, List.all_eq_true, decide_eq_true_eq] at hB
  obtain ⟨⟨⟨hsel, hlen⟩, hall⟩, hseq⟩ := hB
  refine wp_region_any hm (wpAny_of_T (S := S) (T := T) _ _ _ _ ?_)
  have H1 := wpAnyT_seq (md := .any) (P := P) (S := S) (T := T) hsel hQ order (order.map fun x => (nth l x.1, x.2)) (Array.replicate l.toArray.size false) a w.drew (by
    simp only [List.map_map]
    refine List.map_congr_left fun x hx => ?_
    simp only [Function.comp, Prod.mk.injEq, and_true]
    exact nth_get l x.1 (hall x hx)) hseq (fun _ => hA) h
  rwa [hlen] at H1
end
end Go.Proofs.YtcdocklbpfdmeaaDoor

/- Collide's laws: cells. -/
set_option linter.unusedSimpArgs false
set_option linter.unusedVariables false
set_option linter.unnecessarySimpa false
set_option maxRecDepth 20000
namespace Go.Proofs.YtcdocklbpfdmeaaDoor
open Go.RowKit
/-- append of pairs onto an empty slice without room. -/
theorem wpAppPE {ops : Array Oper} {rest : List Oper} {o : Oper} {a : Act} {w : World} {Q : Exit → Act → World → Prop} (s x : Operand) (hgd : o.guard = none)
    (ho : o.op = .call { callee := .builtin .append, args := #[s, x], argTypes := #[22, 22] })
    {ao : Option Addr} {r : List Pr} {ad : Addr} {m c : Nat} (hs : a.eval s = .slice ao 0 0) (hx : a.eval x = .slice (some ad) m c) (hm : m = r.length) (hr : SlP w (some ad) r) (h0 : 0 < m) (hlen : m ≤ 1000000)
    (h : ∀ v' w', OwnP w' w.heap.size v' r → Ex w w' → wpList Tryd.prog ops Q rest (a.put o.dst v') w') : wpList Tryd.prog ops Q (o :: rest) a w := by
  obtain ⟨i, hi, h1', h2', h3'⟩ := info_parts appCell.hi
  subst hm
  refine wpList_append_grows w hgd s x _ ho _ i _ 2 32 appCell.ht hi h1' h2' h3' appCell.hzs appCell.hsz ao 0 0 [] hs (fun _ => ⟨rfl, rfl⟩) rfl (fun b hb j u hj => by simp at hj) ad r.length c (r.flatMap KP) hx (flat_len KP_len r) ?_ (KP_one r) (by omega) (by unfold maxLen; omega) (by omega) fun v' w' k1 k2 => ?_
  · rcases hr.out with rfl | ⟨g, off, hg, _, _⟩
    · intro j u hj; simp at hj
    · cases hg; exact slp_news hr
  refine h v' w' (by simpa [OwnP] using k1) ?_
  have hb := below_app (owns_nil w w.heap.size 42 2) (by exact k2) (Nat.le_refl _)
  exact exOf (A := w) (ex_refl w) hb
def cutS (k : Nat) (s : ByteArray) : ByteArray := s.extract 0 (min s.size k)
def cutP (p : Pr) : Pr := (cutS 201 p.1, cutS 90 p.2)
def cellsT (l : List Pr) : List Pr := (l.take 14).map cutP
def PostPr (w : World) (l : List Pr) (e : Ending) (w' : World) : Prop := ∃ v, e = .returned v ∧ OwnP w' w.heap.size v l ∧ (v = .slice none 0 0 ∨ 0 < l.length) ∧ ∃ X, w' = wx w X
theorem slp_oneF {w w' : World} {g : Nat} (p : Pr) (k : Ex (w.alloc (.cells (PC p) 42)) w') (hg : g = w.heap.size) : SlP w' (some ⟨g, 0, none⟩) [p] := by
  subst hg
  have hb := ex_block k (heap_alloc_new w _)
  refine ⟨Or.inr ⟨_, 0, rfl, (Array.getElem?_eq_some_iff.1 hb).1, fun i e he => ?_⟩⟩
  have hi : i = 0 := by
    have := (List.getElem?_eq_some_iff.1 he).1
    simpa using this
  subst hi
  obtain rfl : p = e := by simpa using he
  rw [Nat.zero_mul, Nat.add_zero]
  exact (block_cells (n := 2) hb rfl).1
set_option maxHeartbeats 1000000 in
theorem cellsL_any (l : List Pr) (a : Option Addr) (c : Nat) (w : World) (hc : l.length ≤ c) (hcm : c ≤ maxLen) (hs : SlP w a l) :
    Calls Tryd.prog 12 #[.slice a l.length c] w (PostPr w (cellsT l)) := by
  obtain ⟨n, hn⟩ : ∃ n, l.length = n := ⟨_, rfl⟩
  have HN : Hid (l.length = n) := Lib.hid hn
  rw [hn] at hc ⊢
  clear hn
  unfold maxLen at hcm
  go_enter Tryd.func12, Tryd.ntmps12
  go_wp2
  go_loopw [3, 8] (fun v i W' => ∃ k : Nat, k ≤ n ∧ k ≤ 14 ∧ i = I k ∧ Hid (v = .slice none 0 0 ∨ 0 < k) ∧ Hid (OwnP W' w.heap.size v ((l.take k).map cutP)) ∧ Ex w W') (fun _ i _ => n - (intOf i).toNat)
  case atStart => exact ⟨0, by omega, by omega, rfl, Lib.hid (Or.inl rfl), Lib.hid (ownp_nil _ _), (by (try show Ex _ _); repeat (first | (with_reducible exact ex_refl _) | (with_reducible assumption) | (with_reducible refine ex_drewL ?_) | (with_reducible refine ex_appR ?_ _) | (with_reducible refine ex_wx ?_ _) | (with_reducible refine ex_drew ?_) | (with_reducible refine ex_alloc ?_ _)))⟩
  case round =>
    obtain ⟨k, hk, hk14, rfl, HV, HO, ⟨X, rfl⟩⟩ := hrel
    by_cases hlt : k < n
    · obtain ⟨g, off, rfl, hg, hcell⟩ := hs.pos (by rw [HN.out]; omega)
      obtain ⟨⟨x, y⟩, hxy⟩ : ∃ p, l[k]? = some p := ⟨_, List.getElem?_eq_getElem (by rw [HN.out]; omega)⟩
      have hc1 : cellsN w g (off + k * 2) 2 = some #[.string x, .string y] := hcell k _ hxy
      by_cases hk6 : k = 14
      · have hk6i : ((k : Int) == 14) = true := by rw [hk6]; rfl
        have HT : Hid (cellsT l = (l.take k).map cutP) := Lib.hid (by rw [hk6]; rfl)
        clear hk6 hcell hs
        go_wp2
        go_ret
        exact ⟨_, rfl, by rw [HT.out]; exact HO.out.ex (by (try show Ex _ _); repeat (first | (with_reducible exact ex_refl _) | (with_reducible assumption) | (with_reducible refine ex_drewL ?_) | (with_reducible refine ex_appR ?_ _) | (with_reducible refine ex_wx ?_ _) | (with_reducible refine ex_drew ?_) | (with_reducible refine ex_alloc ?_ _))), HV.out.imp id fun h => by rw [HT.out, List.length_map, List.length_take, HN.out]; omega, (by (try show Ex _ _); repeat (first | (with_reducible exact ex_refl _) | (with_reducible assumption) | (with_reducible refine ex_drewL ?_) | (with_reducible refine ex_appR ?_ _) | (with_reducible refine ex_wx ?_ _) | (with_reducible refine ex_drew ?_) | (with_reducible refine ex_alloc ?_ _)))⟩
      · have hk6i : ((k : Int) == 14) = false := beq_eq_false_iff_ne.2 (by omega)
        have HT : Hid ((l.take (k + 1)).map cutP = (l.take k).map cutP ++ [(cutS 201 x, cutS 90 y)]) := Lib.hid (by
          obtain ⟨h1, h2⟩ := List.getElem?_eq_some_iff.1 hxy
          rw [List.take_succ_eq_append_getElem h1, List.map_append, h2]; rfl)
        have HX : Hid (x.extract 0 (min (x.size : Int) 201).toNat = cutS 201 x) := Lib.hid (by unfold cutS; congr 1; omega)
        have HY : Hid (y.extract 0 (min (y.size : Int) 90).toNat = cutS 90 y) := Lib.hid (by unfold cutS; congr 1; omega)
        generalize cutS 201 x = x2 at HX HT
        generalize cutS 90 y = y2 at HY HT
        have hlk : ((l.take k).map cutP).length ≤ 14 := by rw [List.length_map, List.length_take]; omega
        clear hcell hs hxy
        go_wp2
        refine wp_region_T (fun w' => ∃ X : Unit, w' = _) 15 [(0, 0), (1, 1), (2, 0), (3, 1), (4, 0), (5, 0), (6, 0), (7, 0), (8, 1), (9, 0), (10, 1), (11, 0), (12, 0), (13, 0), (14, 0), (15, 2), (16, 0), (17, 2)] ⟨(), rfl⟩ (by kernel_rfl) (by kernel_rfl) (fun _ _ d _ _ h => by cases d <;> exact h) ?_
        simp only [List.map_cons, List.map_nil, nth]
        repeat (first | ((with_reducible refine wpSeqT_look ?_); go_big_quiet_step (fail); (with_reducible refine wpQuiet_nil ?_)) | ((with_reducible refine wpSeqT_load ?_); go_big_quiet_step (fail); (with_reducible refine wpQuiet_nil ?_)) | ((with_reducible refine wpSeqT_effF ?_ ?_); (focus rfl); go_simp) | ((with_reducible refine wpSeqT_eff ?_ ?_); (focus rfl); (try dsimp only); go_wp2_with (fail); refine mixQH_mk trivial ?_))
        refine wpSeqT_nil ?_
        rw [HX.out, HY.out]
        have hsl := Lib.hid (fun (w0 : World) w' (gg : Nat) (k' : Ex (w0.alloc (.cells #[.string x2, .string y2] 42)) w') (hgg : gg = w0.heap.size) => slp_oneF (x2, y2) k' hgg)
        go_wp2_with (at_builtin; refine wpAppP (r := [(x2, y2)]) _ _ rfl rfl (HO.out.ex (by (try show Ex _ _); repeat (first | (with_reducible exact ex_refl _) | (with_reducible assumption) | (with_reducible refine ex_drewL ?_) | (with_reducible refine ex_appR ?_ _) | (with_reducible refine ex_wx ?_ _) | (with_reducible refine ex_drew ?_) | (with_reducible refine ex_alloc ?_ _)))) rfl rfl rfl (hsl.out _ _ _ (by (try show Ex _ _); repeat (first | (with_reducible exact ex_refl _) | (with_reducible assumption) | (with_reducible refine ex_drewL ?_) | (with_reducible refine ex_appR ?_ _) | (with_reducible refine ex_wx ?_ _) | (with_reducible refine ex_drew ?_) | (with_reducible refine ex_alloc ?_ _))) (by simp [go_sem])) (by simp only [List.length_singleton]; omega) (by simp [go_sem] <;> omega) (fun v1 w1 hown1 hbe => ?_); obtain ⟨X8, rfl⟩ := exOf (A := w) (by (try show Ex _ _); repeat (first | (with_reducible exact ex_refl _) | (with_reducible assumption) | (with_reducible refine ex_drewL ?_) | (with_reducible refine ex_appR ?_ _) | (with_reducible refine ex_wx ?_ _) | (with_reducible refine ex_drew ?_) | (with_reducible refine ex_alloc ?_ _))) hbe; rw [← HT.out] at hown1; replace hown1 := Lib.hid hown1)
        exact ⟨⟨k + 1, by omega, by omega, by go_num, Lib.hid (Or.inr (Nat.succ_pos k)), hown1, (by (try show Ex _ _); repeat (first | (with_reducible exact ex_refl _) | (with_reducible assumption) | (with_reducible refine ex_drewL ?_) | (with_reducible refine ex_appR ?_ _) | (with_reducible refine ex_wx ?_ _) | (with_reducible refine ex_drew ?_) | (with_reducible refine ex_alloc ?_ _)))⟩, by simp [intOf]; omega⟩
    · obtain rfl : k = n := by omega
      have HT : Hid (cellsT l = (l.take k).map cutP) := Lib.hid (by
        unfold cellsT
        rw [List.take_of_length_le (i := 14) (by rw [HN.out]; omega), List.take_of_length_le (i := k) (by rw [HN.out]; omega)])
      clear hlt hk hs
      go_wp2
      go_ret
      exact ⟨_, rfl, by rw [HT.out]; exact HO.out.ex (by (try show Ex _ _); repeat (first | (with_reducible exact ex_refl _) | (with_reducible assumption) | (with_reducible refine ex_drewL ?_) | (with_reducible refine ex_appR ?_ _) | (with_reducible refine ex_wx ?_ _) | (with_reducible refine ex_drew ?_) | (with_reducible refine ex_alloc ?_ _))), HV.out.imp id fun h => by rw [HT.out, List.length_map, List.length_take, HN.out]; omega, (by (try show Ex _ _); repeat (first | (with_reducible exact ex_refl _) | (with_reducible assumption) | (with_reducible refine ex_drewL ?_) | (with_reducible refine ex_appR ?_ _) | (with_reducible refine ex_wx ?_ _) | (with_reducible refine ex_drew ?_) | (with_reducible refine ex_alloc ?_ _)))⟩
end Go.Proofs.YtcdocklbpfdmeaaDoor

/- Collide: a growth of too many leaves is none. -/
set_option linter.unusedSimpArgs false
set_option linter.unusedVariables false
set_option linter.unnecessarySimpa false
set_option maxRecDepth 20000
namespace Go.Proofs.YtcdocklbpfdmeaaDoor
open Go.RowKit
theorem info_growth : (Tryd.prog.info? 79).map (·.size) = some 34 := by kernel_rfl
@[go_sem] theorem load_growth (b o : Nat) (w : World) : loadRun Tryd.prog 79 (.pointer (some ⟨b, o, none⟩)) w = match cellsN w b o 34 with | some cs => .ok (.value (.agg cs)) w | none => loadRaw Tryd.prog 79 (.pointer (some ⟨b, o, none⟩)) w := loadRun_row Tryd.underlying79 rfl info_growth b o w
@[go_sem] theorem store_growth (b o : Nat) (vs : Array Value) (w : World) : storeRun Tryd.prog 79 (.pointer (some ⟨b, o, none⟩)) (.agg vs) w = if (vs.size == 34 && (cellsN w b o 34).isSome && !frozenN w b o 34 && oneCells vs) = true then .ok .skip (w.setCells b o vs.toList) else storeRaw Tryd.prog 79 (.pointer (some ⟨b, o, none⟩)) (.agg vs) w := storeRun_row info_growth b o vs w
theorem extended_long (W : Int) (n c : Nat) (a : Option Addr) (w : World) (cs : Array Value) (h0 : cs[0]? = some (I 1)) (hsz : cs.size = 34) (hone : oneCells cs = true) (hn : 1024 < n) (hc : n ≤ c) (hcm : c ≤ maxLen) :
    Calls Tryd.prog 75 #[I W, .slice a n c, .agg cs] w (Post w (.tuple #[.bool false, .pointer none])) := by
  have t1 : decide ((1024 : Int) < n) = true := decide_eq_true (by omega)
  have t2 : decide (1024 < n) = true := decide_eq_true (by omega)
  unfold maxLen at hcm
  go_enter Tryd.func75, Tryd.ntmps75
  go_wp2
  go_ret2
  exact post_mk rfl (by (try show Ex _ _); repeat (first | (with_reducible exact ex_refl _) | (with_reducible assumption) | (with_reducible refine ex_drewL ?_) | (with_reducible refine ex_appR ?_ _) | (with_reducible refine ex_wx ?_ _) | (with_reducible refine ex_drew ?_) | (with_reducible refine ex_alloc ?_ _)))
set_option maxHeartbeats 1000000 in
theorem extend_long (W : Int) (n c : Nat) (a : Option Addr) (w : World) (cs : Array Value) (h0 : cs[0]? = some (I 1)) (hsz : cs.size = 34) (hone : oneCells cs = true) (hn : 1024 < n) (hc : n ≤ c) (hcm : c ≤ maxLen) :
    Calls Tryd.prog 39 #[I W, .slice a n c, .agg cs] w (Post w (.tuple #[.agg #[.slice none 0 0, .slice none 0 0], .bool false])) := by
  have HE := Lib.hid fun w' => extended_long W n c a w' cs h0 hsz hone hn hc hcm
  have HT : Hid (∀ w', Calls Tryd.prog 59 #[.bool false, .pointer none] w' fun e w2 => ∃ X, e = .returned (.tuple #[.agg #[.slice none 0 0, .slice none 0 0], .bool false]) ∧ w2 = wx w' X) := Lib.hid fun w' => (told_s false none none w' rfl).mono fun e w2 ⟨sa, sb, h1, ⟨X, h2⟩, h3, h4⟩ => by
    subst h3 h4
    exact ⟨X, h1, h2⟩
  unfold maxLen at hcm
  go_enter Tryd.func39, Tryd.ntmps39
  go_wp2_with (go_at_call 75; (with_reducible refine (HE.out _).mono ?_); rintro e w2 ⟨rfl, X, rfl⟩)
  refine wp_region_seqA (w) [(0, true), (1, true), (2, true), (3, true), (4, true), (5, true), (6, true), (7, true), (8, true), (12, true), (9, false), (10, true), (11, true), (13, false), (14, true), (15, true), (16, false), (17, true)] (by (try show Ex _ _); repeat (first | (with_reducible exact ex_refl _) | (with_reducible assumption) | (with_reducible refine ex_drewL ?_) | (with_reducible refine ex_appR ?_ _) | (with_reducible refine ex_wx ?_ _) | (with_reducible refine ex_drew ?_) | (with_reducible refine ex_alloc ?_ _))) (by kernel_rfl) (by kernel_rfl) (fun _ _ d _ _ h => by cases d <;> exact h) ?_
  simp only [List.map_cons, List.map_nil, nth]
  repeat (first | ((with_reducible refine wpSeq_look ?_); go_big_quiet_step (fail); (with_reducible refine wpQuiet_nil ?_)) | ((with_reducible refine wpSeq_effF ?_ ?_); (focus rfl); go_simp) | ((with_reducible refine wpSeq_eff ?_ ?_); (focus rfl); (try dsimp only); go_wp2_with ((go_at_call 59; (with_reducible refine (HT.out _).mono ?_); rintro e w3 ⟨X3, rfl, rfl⟩)); refine mixQ_mk (by (try show Ex _ _); repeat (first | (with_reducible exact ex_refl _) | (with_reducible assumption) | (with_reducible refine ex_drewL ?_) | (with_reducible refine ex_appR ?_ _) | (with_reducible refine ex_wx ?_ _) | (with_reducible refine ex_drew ?_) | (with_reducible refine ex_alloc ?_ _))) ?_))
  refine wpSeq_nil ?_
  go_wp2
  exact ret_rowV (cs := #[.slice none 0 0, .slice none 0 0]) Tryd.results39 Tryd.underlying37 rfl info_clash rfl (by simp [go_sem]) rfl rfl (post_mk rfl (by (try show Ex _ _); repeat (first | (with_reducible exact ex_refl _) | (with_reducible assumption) | (with_reducible refine ex_drewL ?_) | (with_reducible refine ex_appR ?_ _) | (with_reducible refine ex_wx ?_ _) | (with_reducible refine ex_drew ?_) | (with_reducible refine ex_alloc ?_ _))))
/-- A growth of one leaf, else empty. -/
def grow1 : Array Value := #[.int .i64 1, .int .u8 0, .int .u8 0, .int .u8 0, .int .u8 0, .int .u8 0, .int .u8 0, .int .u8 0, .int .u8 0, .int .u8 0, .int .u8 0, .int .u8 0, .int .u8 0, .int .u8 0, .int .u8 0, .int .u8 0, .int .u8 0, .int .u8 0, .int .u8 0, .int .u8 0, .int .u8 0, .int .u8 0, .int .u8 0, .int .u8 0, .int .u8 0, .int .u8 0, .int .u8 0, .int .u8 0, .int .u8 0, .int .u8 0, .int .u8 0, .int .u8 0, .int .u8 0, .slice none 0 0]
theorem grow1_0 : grow1[0]? = some (I 1) := by unfold grow1; simp
theorem grow1_size : grow1.size = 34 := by unfold grow1; simp
theorem grow1_one : oneCells grow1 = true := by unfold grow1; simp [go_sem]
theorem extend_grow1 (W : Int) (n c : Nat) (a : Option Addr) (w : World) (hn : 1024 < n) (hc : n ≤ c) (hcm : c ≤ maxLen) :
    Calls Tryd.prog 39 #[I W, .slice a n c, .agg grow1] w (Post w (.tuple #[.agg #[.slice none 0 0, .slice none 0 0], .bool false])) := extend_long W n c a w grow1 grow1_0 grow1_size grow1_one hn hc hcm
end Go.Proofs.YtcdocklbpfdmeaaDoor
