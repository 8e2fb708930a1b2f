import Derived.StillTail
import Derived.OrdersHeld
import Derived.BigQuiet
import Derived.Deep.QuietTactic
import Derived.WalkKit
import Derived.WalkSpells
import Derived.WalkLawsBesides

/- A region that draws its order, walked in one order: what only looks is shown in every later world, what makes memory leaves the old memory as it is. Over whatever program. -/
set_option linter.unusedSimpArgs false
set_option linter.unusedVariables false
set_option maxRecDepth 20000
namespace Go.Proofs.YtabjamkkhlbajaaDoor
open Go.RowKit

structure More where
  blocks : List Obj
  drawn : Nat
instance : Inhabited More := ⟨⟨[], 0⟩⟩
/-- w, with more blocks behind its own, and the tape elsewhere. -/
def wx (w : World) (X : More) : World := { w with heap := w.heap ++ X.blocks.toArray, drawn := X.drawn }
/-- The block of a number behind: behind a name, so that simp keeps it. -/
def More.at (X : More) (k : Nat) : Option Obj := X.blocks[k]?
@[go_sem] theorem wx_size (w : World) (X : More) : (wx w X).heap.size = w.heap.size + X.blocks.length := by simp [wx]
@[go_sem] theorem lt_add_more (a b : Nat) (X : More) (h : a < b) : a < b + X.blocks.length := Nat.lt_of_lt_of_le h (Nat.le_add_right _ _)
@[go_sem] theorem add_lt_me (a q : Nat) : (a + q < a) = False := by simp
@[go_sem] theorem add_sub_me (a q : Nat) : a + q - a = q := Nat.add_sub_cancel_left a q
theorem wx_heap (w : World) (X : More) (k : Nat) (h : k < w.heap.size) : (wx w X).heap[k]? = w.heap[k]? := by
  simp only [wx]; rw [Array.getElem?_append_left h]
theorem wx_heap_more (w : World) (X : More) (k : Nat) : (wx w X).heap[w.heap.size + k]? = X.at k := by
  unfold More.at
  simp only [wx]; rw [Array.getElem?_append_right (by omega)]; simp
/-- A cell, a row's mark, a store: of the blocks behind. -/
def blkCell (b : Option Obj) (o : Nat) (s : Option Nat) : Option Value := match b with | some (.cells c _ _) => if s.isSome then none else c[o]? | _ => none
def blkFrozen (b : Option Obj) (o : Nat) : Bool := match b with | some (.cells _ _ (lo, hi)) => lo ≤ o && o < hi | _ => false
@[go_sem] theorem blkCell_cells (c : Array Value) (t : TypeId) (fr : Nat × Nat) (o : Nat) : blkCell (some (.cells c t fr)) o none = c[o]? := rfl
@[go_sem] theorem blkFrozen_cells (c : Array Value) (t : TypeId) (o : Nat) : blkFrozen (some (.cells c t (0, 0))) o = false := by simp [blkFrozen]
def More.set (X : More) (i : Nat) (a : Addr) (v : Value) : More := { X with blocks := X.blocks.modify i fun
  | .cells c elem frozen => .cells (if a.spot.isSome then c else c.setIfInBounds a.off v) elem frozen
  | o => o }
@[go_sem] theorem More.set_len (X : More) (i : Nat) (a : Addr) (v : Value) : (X.set i a v).blocks.length = X.blocks.length := by simp [More.set]
theorem More.set_get_raw (X : More) (i k : Nat) (a : Addr) (v : Value) : (X.set i a v).blocks[k]? = if i = k then (X.blocks[k]?).map (fun | .cells c elem frozen => .cells (if a.spot.isSome then c else c.setIfInBounds a.off v) elem frozen | o => o) else X.blocks[k]? := by
  simp only [More.set, List.getElem?_modify]
  split <;> simp
@[go_sem] theorem More.set_get (X : More) (i k : Nat) (a : Addr) (v : Value) : (X.set i a v).at k = if i = k then (X.at k).map (fun | .cells c elem frozen => .cells (if a.spot.isSome then c else c.setIfInBounds a.off v) elem frozen | o => o) else X.at k := More.set_get_raw X i k a v
theorem wx_cell (w : World) (X : More) (a : Addr) (h : a.block < w.heap.size) : (wx w X).cell? a = w.cell? a := by
  simp only [World.cell?, wx_heap w X a.block h]
theorem wx_frozen (w : World) (X : More) (a : Addr) (h : a.block < w.heap.size) : (wx w X).frozen? a = w.frozen? a := by
  simp only [World.frozen?, wx_heap w X a.block h]
theorem wx_set (w : World) (X : More) (a : Addr) (v : Value) (h : a.block < w.heap.size) : (wx w X).setCell a v = wx (w.setCell a v) X := by
  simp only [wx, World.setCell]
  congr 1
  apply Array.ext
  · simp
  · intro i h1 h2
    simp only [Array.getElem_modify, Array.getElem_append]
    by_cases hb : a.block = i
    · subst hb; simp [h]
    · simp [hb]
theorem wx_set_more (w : World) (X : More) (a : Addr) (v : Value) (h : ¬ a.block < w.heap.size) : (wx w X).setCell a v = wx w (X.set (a.block - w.heap.size) a v) := by
  simp only [wx, World.setCell, More.set]
  congr 1
  apply Array.ext_getElem?
  intro i
  simp only [Array.getElem?_modify, Array.getElem?_append, List.getElem?_toArray, List.getElem?_modify]
  by_cases hi : i < w.heap.size
  · simp [hi, show a.block ≠ i by omega]
  · by_cases hb : a.block = i
    · subst hb; simp [hi]; rfl
    · simp [hi, hb, show a.block - w.heap.size ≠ i - w.heap.size by omega]
theorem wx_cellI_raw (w : World) (X : More) (a : Addr) : (wx w X).cell? a = if a.block < w.heap.size then w.cell? a else blkCell (X.blocks[a.block - w.heap.size]?) a.off a.spot := by
  split
  · exact wx_cell _ _ _ ‹_›
  · rename_i h
    have := wx_heap_more w X (a.block - w.heap.size)
    rw [show w.heap.size + (a.block - w.heap.size) = a.block by omega] at this
    simp only [World.cell?, this]; rfl
@[go_sem] theorem wx_cellI (w : World) (X : More) (a : Addr) : (wx w X).cell? a = if a.block < w.heap.size then w.cell? a else blkCell (X.at (a.block - w.heap.size)) a.off a.spot := wx_cellI_raw w X a
theorem wx_frozenI_raw (w : World) (X : More) (a : Addr) : (wx w X).frozen? a = if a.block < w.heap.size then w.frozen? a else blkFrozen (X.blocks[a.block - w.heap.size]?) a.off := by
  split
  · exact wx_frozen _ _ _ ‹_›
  · rename_i h
    have := wx_heap_more w X (a.block - w.heap.size)
    rw [show w.heap.size + (a.block - w.heap.size) = a.block by omega] at this
    simp only [World.frozen?, this]; rfl
@[go_sem] theorem wx_frozenI (w : World) (X : More) (a : Addr) : (wx w X).frozen? a = if a.block < w.heap.size then w.frozen? a else blkFrozen (X.at (a.block - w.heap.size)) a.off := wx_frozenI_raw w X a
@[go_sem] theorem wx_setI (w : World) (X : More) (a : Addr) (v : Value) : (wx w X).setCell a v = if a.block < w.heap.size then wx (w.setCell a v) X else wx w (X.set (a.block - w.heap.size) a v) := by
  split
  · exact wx_set _ _ _ _ ‹_›
  · exact wx_set_more _ _ _ _ ‹_›
@[go_sem] theorem wx_drew (w : World) (X : More) : wx w.drew X = wx w X := rfl
@[go_sem] theorem wx_drewN (w : World) (X : More) (k : Nat) : wx (w.drewN k) X = wx w X := rfl

def More.app (X Y : More) : More := ⟨X.blocks ++ Y.blocks, Y.drawn⟩
@[go_sem] theorem More.app_len (X Y : More) : (X.app Y).blocks.length = X.blocks.length + Y.blocks.length := by simp [More.app]
theorem More.app_get_raw (X Y : More) (k : Nat) : (X.app Y).blocks[k]? = if k < X.blocks.length then X.blocks[k]? else Y.blocks[k - X.blocks.length]? := by
  simp only [More.app, List.getElem?_append]
@[go_sem] theorem More.app_get (X Y : More) (k : Nat) : (X.app Y).at (k) = if k < X.blocks.length then X.at (k) else Y.at (k - X.blocks.length) := More.app_get_raw X Y k
@[go_sem] theorem wx_wx (w : World) (X Y : More) : wx (wx w X) Y = wx w (X.app Y) := by simp [wx, More.app, Array.append_assoc]

/-- What was there is there still. -/
def Ex (w w' : World) : Prop := ∃ X, w' = wx w X
theorem ex_refl (w : World) : Ex w w := ⟨⟨[], w.drawn⟩, by simp [wx]⟩
theorem ex_wx {w W : World} (h : Ex w W) (X : More) : Ex w (wx W X) := by
  obtain ⟨Y, rfl⟩ := h
  exact ⟨⟨Y.blocks ++ X.blocks, X.drawn⟩, by simp [wx, Array.append_assoc]⟩
theorem ex_appR {u w : World} {X : More} (h : Ex u (wx w X)) (Y : More) : Ex u (wx w (X.app Y)) := by
  obtain ⟨Z, hZ⟩ := h
  exact ⟨Z.app Y, by rw [← wx_wx, ← wx_wx, hZ]⟩
theorem ex_app (w : World) (X Y : More) : Ex (wx w X) (wx w (X.app Y)) := ⟨Y, (wx_wx w X Y).symm⟩
theorem ex_trans {w W V : World} (h : Ex w W) (k : Ex W V) : Ex w V := by
  obtain ⟨X, rfl⟩ := k; exact ex_wx h X
theorem ex_below {w W : World} (h : Ex w W) : Below w.heap.size w W := by
  obtain ⟨X, rfl⟩ := h
  exact ⟨rfl, rfl, rfl, by simp [wx], fun k hk => wx_heap w X k hk⟩
theorem ex_of_below {w W : World} (h : Below w.heap.size w W) : Ex w W := by
  refine ⟨⟨W.heap.toList.drop w.heap.size, W.drawn⟩, ?_⟩
  obtain ⟨h1, h2, h3, h4, h5⟩ := h
  cases W with
  | mk heap tape drawn os output =>
    simp only at h1 h2 h3 h4 h5
    subst h1 h2 h3
    simp only [wx, World.mk.injEq, and_true]
    apply Array.ext'
    simp only [Array.toList_append]
    have : w.heap.toList = heap.toList.take w.heap.size := by
      apply List.ext_getElem?
      intro i
      rw [List.getElem?_take]
      by_cases hi : i < w.heap.size
      · rw [if_pos hi]; have := h5 i hi; simp at this ⊢; exact this.symm
      · rw [if_neg hi]; simp; omega
    rw [this]; simp
theorem ex_alloc {w W : World} (h : Ex w W) (o : Obj) : Ex w (W.alloc o) := ex_of_below ((ex_below h).alloc (ex_below h).size o)
theorem ex_drew {w W : World} (h : Ex w W) : Ex w W.drew := ex_of_below (ex_below h).drew
theorem ex_set {w W : World} (h : Ex w W) {p : Addr} (hp : w.heap.size ≤ p.block) (v : Value) : Ex w (W.setCell p v) :=
  ex_of_below ((ex_below h).setCell hp v)

/-- What a call hands back, and that it has turned nothing that was there. -/
def Post (W : World) (v : Value) (e : Ending) (w' : World) : Prop := e = .returned v ∧ ∃ X, w' = wx W X
theorem post_mk {W w' : World} {v : Value} {e : Ending} (he : e = .returned v) (h : Ex W w') : Post W v e w' := ⟨he, h⟩

section
variable {P : Program} {ops : Array Oper} {Q : Exit → Act → World → Prop} {md : Region.Mode}

theorem YieldsIf.ex {o : Oper} {v : Value} {a : Act} {w w' : World} (h : YieldsIf P ops (Ex w) o v a) (k : Ex w w') : YieldsIf P ops (Ex w') o v a :=
  h.imp (fun ⟨hw, hv⟩ => ⟨hw, fun u hu => hv u (ex_trans k hu)⟩) id

/-- The tail waits for the head; or there is none. -/
def tailB (md : Region.Mode) (ops : Array Oper) (n : Nat) : Bool := n == ops.size || (decide (n < ops.size) && Region.sinkB md ops n && Region.chainB md ops n)

theorem head_lt {n : Nat} {listed : Array Bool} (ht : tailB md ops n = true) (inv : HeadInv md ops n listed) {i : Nat} (hin : i < n) (hun : listed.getD i true = false) {j : Nat} (hj : j ∈ Region.ready md ops listed) : j < n := by
  obtain ⟨_, oj, hoj, _⟩ := mem_ready.1 hj
  have hjs : j < ops.size := (Array.getElem?_eq_some_iff.1 hoj).1
  simp only [tailB, Bool.or_eq_true, beq_iff_eq, Bool.and_eq_true, decide_eq_true_eq] at ht
  rcases ht with ht | ⟨⟨hn, hs⟩, hc⟩
  · omega
  · rcases Nat.lt_or_ge j n with h | h
    · exact h
    · exact absurd hj (tail_waits hs hc hn inv _ i rfl hin hun j h)

/-- Whatever of the head comes up, in whatever later world: what was there is there still behind it. -/
def wpAnyK (P : Program) (md : Region.Mode) (ops : Array Oper) (Q : Exit → Act → World → Prop) (n : Nat) (L : Array Bool → Act → World → Prop) : Nat → Array Bool → Act → World → Prop
  | 0, listed, a, w => ∀ W, Ex w W → L listed a W
  | f + 1, listed, a, w => ∀ W, Ex w W →
    Region.ready md ops listed ≠ [] ∧ ∀ i ∈ Region.ready md ops listed, i < n ∧ wpOp P ops Q i (fun a' w' => Ex W w' ∧ wpAnyK P md ops Q n L f (listed.setIfInBounds i true) a' w') a W

theorem wpAnyK_ex {n : Nat} {L : Array Bool → Act → World → Prop} {f : Nat} {listed : Array Bool} {a : Act} {w W : World} (h : wpAnyK P md ops Q n L f listed a w) (k : Ex w W) : wpAnyK P md ops Q n L f listed a W := by
  cases f with
  | zero => exact fun V hV => h V (ex_trans k hV)
  | succ f => exact fun V hV => h V (ex_trans k hV)

theorem wpAny_of_K {n g : Nat} {L : Array Bool → Act → World → Prop} (hL : ∀ listed a w, L listed a w → wpAny P md ops Q g listed a w) :
    ∀ (f : Nat) (listed : Array Bool) (a : Act) (w : World), wpAnyK P md ops Q n L f listed a w → wpAny P md ops Q (f + g) listed a w
  | 0, listed, a, w, h => by rw [Nat.zero_add]; exact hL _ _ _ (h w (ex_refl w))
  | f + 1, listed, a, w, h => by
    rw [show f + 1 + g = (f + g) + 1 by omega]
    have h := h w (ex_refl w)
    exact ⟨fun h0 => absurd h0 h.1, fun i hi => wpOp_mono (fun a' w' h' => wpAny_of_K hL f _ a' w' h'.2) (h.2 i hi).2⟩

theorem wpAnyK_first {n i : Nat} {oi : Oper} {v : Value} {L : Array Bool → Act → World → Prop} (hi : ops[i]? = some oi) (hsel : ∀ (j : Nat) (o : Oper) cs b, ops[j]? = some o → o.op ≠ .select cs b)
    (hQ : ∀ c a w, Q (.panic c) (a.put oi.dst v) w → Q (.panic c) a w) (ht : tailB md ops n = true) (hin : i < n)
    (hdone : ∀ listed a w, L listed a w → ∀ j ∈ Region.ready md ops listed, n ≤ j) :
    ∀ (f : Nat) (listed : Array Bool) (a : Act) (w : World), HeadInv md ops n listed →
      (∀ j oj, ops[j]? = some oj → j ≠ i → listed.getD j true = false → (∀ e ∈ oj.after, Region.binds md e = true → e.on ≠ i) → oi.apart ops oj = true) →
      i ∈ Region.ready md ops listed → YieldsIf P ops (Ex w) oi v a →
      wpAnyK P md ops Q n L f (listed.setIfInBounds i true) (a.put oi.dst v) w → wpAnyK P md ops Q n L (f + 1) listed a w := by
  intro f
  induction f with
  | zero =>
    intro listed a w inv _ hr hy H W hW
    have hun := (mem_ready.1 hr).1
    refine ⟨fun h => (by rw [h] at hr; cases hr), fun j hj => ⟨head_lt ht inv hin hun hj, ?_⟩⟩
    by_cases hji : j = i
    · subst hji; exact hy.wpOp hi hW ⟨ex_refl W, wpAnyK_ex (f := 0) H hW⟩
    · have := hdone _ _ _ (H w (ex_refl w)) j (ready_mono hj hji)
      have := head_lt ht inv hin hun hj
      omega
  | succ f ih =>
    intro listed a w inv hfree hr hy H W hW
    have hun := (mem_ready.1 hr).1
    refine ⟨fun h => (by rw [h] at hr; cases hr), fun j hj => ⟨head_lt ht inv hin hun hj, ?_⟩⟩
    by_cases hji : j = i
    · subst hji; exact hy.wpOp hi hW ⟨ex_refl W, wpAnyK_ex H hW⟩
    · have hjn := head_lt ht inv hin hun hj
      have h1 := ((H W hW).2 j (ready_mono hj hji)).2
      obtain ⟨hjun, oj, hoj, hall⟩ := mem_ready.1 hj
      have hnot : ∀ e ∈ oj.after, Region.binds md e = true → e.on ≠ i := fun e he hb heq => by
        have h1 := hall e he hb
        rw [heq, getD_both hun] at h1
        cases h1
      have h2 := wpOp_putIf hoj (hfree j oj hoj hji hjun hnot) (fun cs b => hsel i oi cs b hi) (fun cs b => hsel j oj cs b hoj) hQ (YieldsIf.ex hy hW) h1
      have hfree' : ∀ k ok, ops[k]? = some ok → k ≠ i → (listed.setIfInBounds j true).getD k true = false →
          (∀ e ∈ ok.after, Region.binds md e = true → e.on ≠ i) → oi.apart ops ok = true := fun k ok hk hki hun hno => by
        refine hfree k ok hk hki ?_ hno
        by_cases hjk : j = k
        · subst hjk; exact hjun
        · rw [getD_set_ne true hjk] at hun; exact hun
      refine wpOp_mono (fun a' w' h3 => ⟨h3.2.1, ih (listed.setIfInBounds j true) a' w' (inv.set hj hjn) hfree' (ready_mono hr (Ne.symm hji)) (YieldsIf.ex h3.1 h3.2.1) ?_⟩) h2
      rw [Array.setIfInBounds_comm _ _ hji]
      exact h3.2.2

/-- An operation that only looks, or reckons. -/
def isLook : Op → Bool
  | .move _ | .assign _ | .pick _ _ _ | .load _ _ | .binOp _ _ _ _ _ | .unOp _ _ _ | .convert _ _ _ | .sliceToArrayPointer _ _ | .makeInterface _ _ | .makeFunc _ _ _ | .slice _ _ _ _ _
  | .fieldAddr _ _ _ | .field _ _ _ | .indexAddr _ _ _ | .index _ _ _ | .extract _ _ | .build _ _ | .typeAssert _ _ _ _ | .lookup _ _ _ _ => true
  | .nilCheck _ => true
  | .call { callee := .builtin .len, .. } | .call { callee := .builtin .cap, .. } | .call { callee := .builtin .min, .. } | .call { callee := .builtin .max, .. } => true
  | _ => false

/-- Whatever it ends well with is a value. -/
def Gives (P : Program) (s : Sem Next) : Prop := ∀ w x w', s.run P w = .ok x w' → ∃ u, x = .value u
theorem gives_pure (v : Value) : Gives P (pure (.value v)) := fun w x w' h => by
  simp only [Sem.run_pure, Result.ok.injEq] at h; exact ⟨_, h.1.symm⟩
theorem gives_bind {α : Type} {s : Sem α} {f : α → Sem Next} (hf : ∀ a, Gives P (f a)) : Gives P (s >>= f) := fun w x w' h => by
  rw [Sem.run_bind] at h
  cases hs : s.run P w with
  | ok v w1 => rw [hs] at h; exact hf v w1 x w' h
  | halt x w1 => rw [hs] at h; cases h
theorem gives_halt (x : Halt) : Gives P (.halt x) := fun w x w' h => by cases h
theorem gives_nil : Gives P (runtimePanic .nilDeref) := gives_bind fun _ => gives_halt _
theorem look_value {o : Oper} (ho : isLook o.op = true) (ρ : Operand → Value) : Gives P (execOp ρ o) := by
  obtain ⟨dst, op, ty, pos, after, guard⟩ := o
  cases op
  case nilCheck y =>
    simp only [execOp]
    split
    · exact gives_nil
    · exact gives_nil
    · exact gives_nil
    · split
      · exact gives_nil
      · refine gives_bind fun _ => gives_bind fun _ => ?_
        split
        · exact gives_bind fun _ => gives_pure _
        · exact gives_pure _
      · exact gives_pure _
    · exact gives_pure _
  case call c =>
    obtain ⟨callee, args, argTypes⟩ := c
    cases callee
    case builtin b =>
      cases b
      case len => exact @gives_bind P Value (Builtin.len_ argTypes ty (args.map ρ)) _ fun _ => gives_pure _
      case cap => exact @gives_bind P Value (Builtin.cap_ argTypes ty (args.map ρ)) _ fun _ => gives_pure _
      case min => exact @gives_bind P Value (Builtin.min_ argTypes ty (args.map ρ)) _ fun _ => gives_pure _
      case max => exact @gives_bind P Value (Builtin.max_ argTypes ty (args.map ρ)) _ fun _ => gives_pure _
      all_goals cases ho
    all_goals cases ho
  all_goals first | (cases ho; done) | exact gives_pure _ | exact gives_bind fun _ => gives_pure _ | exact gives_bind fun _ => gives_bind fun _ => gives_pure _ | skip

/-- Behind something that may make memory. -/
def MixQ (Q : Exit → Act → World → Prop) (R : Act → World → Prop) (w : World) : Exit → Act → World → Prop
  | .normal, a', w' => (∃ X, w' = wx w X) ∧ R a' w'
  | e, a', w' => Q e a' w'

/-- The head, in one order: (the operation, whether it only looks). -/
def wpMix (P : Program) (ops : Array Oper) (Q : Exit → Act → World → Prop) (R : Act → World → Prop) : List (Oper × Bool) → Act → World → Prop
  | [], a, w => ∀ W, Ex w W → R a W
  | (o, true) :: r, a, w => if Region.wanted o (yielded ops a.tmps) then o.quiet P a (Ex w) (fun a' => wpMix P ops Q R r a' w) else wpMix P ops Q R r (a.put o.dst undef) w
  | (o, false) :: r, a, w => if Region.wanted o (yielded ops a.tmps) then ∀ W, Ex w W → (o.wp P a W (fun a' w' => Ex W w' ∧ wpMix P ops Q R r a' w') Q ∨ (o.asks P a W ∧ LetsOut Q)) else wpMix P ops Q R r (a.put o.dst undef) w

theorem wpMix_nil {R : Act → World → Prop} {a : Act} {w : World} (h : ∀ X, R a (wx w X)) : wpMix P ops Q R [] a w := fun _ ⟨X, hW⟩ => hW ▸ h X
theorem wpMix_look {R : Act → World → Prop} {o : Oper} {r : List (Oper × Bool)} {a : Act} {w : World}
    (h : wpQuiet P ops (fun w' => ∃ X, w' = wx w X) (fun a' => wpMix P ops Q R r a' w) [o] a) : wpMix P ops Q R ((o, true) :: r) a w := h
theorem mixQ_wp {R : Act → World → Prop} {o : Oper} {a : Act} {w w0 : World} {K : Act → World → Prop} (h : o.wp P a w K (MixQ Q R w0)) : o.wp P a w K Q := by
  unfold Oper.wp at *
  generalize (execOp a.eval o).run P w = r at *
  cases r with
  | ok n w' =>
    cases n <;> simp only [Oper.upon] at h ⊢ <;>
      first
        | exact h
        | exact Calls.mono h (fun e w'' he => by cases e <;> exact he)
  | halt x w' => cases x <;> simp only [Oper.upon] at h ⊢ <;> exact h
theorem wpMix_eff {R : Act → World → Prop} {o : Oper} {r : List (Oper × Bool)} {a : Act} {w : World} (hg : o.guard = none)
    (h : ∀ X, wpList P ops (MixQ Q (wpMix P ops Q R r) (wx w X)) [o] a (wx w X)) : wpMix P ops Q R ((o, false) :: r) a w := by
  have hw : Region.wanted o (yielded ops a.tmps) = true := by simp [Region.wanted, hg]
  unfold wpMix
  rw [if_pos hw]
  rintro W ⟨X, rfl⟩
  have h := h X
  unfold wpList at h
  rw [if_pos hw] at h
  rcases h with h | ⟨h1, h2⟩
  · exact .inl (mixQ_wp (Oper.wp_mono (fun a' w' h' => h') h))
  · exact .inr ⟨h1, h2⟩
/-- What is asked of the order. -/
def mixB (md : Region.Mode) (ops : Array Oper) (n : Nat) : List (Nat × Bool) → Array Bool → Bool
  | [], listed => Region.seqB md ops (ops.size - n) n listed
  | (i, look) :: r, listed => decide (i < n) && (Region.ready md ops listed).contains i && (if look then Region.free md ops listed i && ((ops[i]?).map (fun o => isLook o.op)).getD false else Region.ready md ops listed == [i]) &&
      mixB md ops n r (listed.setIfInBounds i true)

theorem wpAnyK_mix {n : Nat} {R : Act → World → Prop} (hsel : Region.noSelect ops = true) (hQ : ∀ c a d v w, Q (.panic c) (a.put d v) w → Q (.panic c) a w) (ht : tailB md ops n = true) :
    ∀ (l : List (Nat × Bool)) (m : List (Oper × Bool)) (listed : Array Bool) (a : Act) (w : World), l.map (fun x => (ops[x.1]?, x.2)) = m.map (fun x => (some x.1, x.2)) → HeadInv md ops n listed → mixB md ops n l listed = true →
      wpMix P ops Q R m a w → wpAnyK P md ops Q n (fun listed' a' w' => Region.seqB md ops (ops.size - n) n listed' = true ∧ R a' w') l.length listed a w := by
  intro l
  induction l with
  | nil =>
    intro m listed a w hm inv hB h
    cases m with
    | nil => exact fun _ hW => ⟨hB, h _ hW⟩
    | cons x m => cases hm
  | cons x l ih =>
    intro m listed a w hm inv hB h
    obtain ⟨i, look⟩ := x
    cases m with
    | nil => cases hm
    | cons y m =>
      obtain ⟨o, look'⟩ := y
      simp only [List.map_cons, List.cons.injEq, Prod.mk.injEq] at hm
      obtain ⟨⟨ho, rfl⟩, hm⟩ := hm
      simp only [mixB, Bool.and_eq_true, decide_eq_true_eq] at hB
      obtain ⟨⟨⟨hin, hr⟩, hk⟩, hB'⟩ := hB
      have hr' : i ∈ Region.ready md ops listed := by simpa using hr
      cases look with
      | true =>
        simp only [if_true, Bool.and_eq_true] at hk
        obtain ⟨hf, hl⟩ := hk
        have hl' : isLook o.op = true := by simpa [ho] using hl
        have hst : ∃ v, YieldsIf P ops (Ex w) o v a ∧ wpMix P ops Q R m (a.put o.dst v) w := by
          unfold wpMix at h
          by_cases hw : Region.wanted o (yielded ops a.tmps) = true
          · rw [if_pos hw] at h
            obtain ⟨v, h1, h2⟩ := h
            refine ⟨v, .inl ⟨hw, fun w' hw' => ?_⟩, h2⟩
            have h3 := h1 w' hw'
            unfold Oper.quietAt at h3
            cases hrun : (execOp a.eval o).run P w' with
            | ok x w1 =>
              obtain ⟨u, rfl⟩ := look_value hl' a.eval w' x w1 hrun
              rw [hrun] at h3
              simp only [Oper.quietUpon] at h3
              rw [h3.1, h3.2]
            | halt x w1 => rw [hrun] at h3; exact h3.elim
          · rw [if_neg hw] at h
            exact ⟨undef, .inr ⟨by simpa using hw, rfl⟩, h⟩
        obtain ⟨v, hy, hK⟩ := hst
        exact wpAnyK_first ho (Region.noSelect_spec hsel) (fun c a w => hQ c a _ _ w) ht hin (fun listed' a' w' hL => seqB_ready hL.1) l.length listed a w inv (Region.free_spec ho hf) hr' hy
          (ih m _ _ _ hm (inv.set hr' hin) hB' hK)
      | false =>
        simp only [Bool.false_eq_true, if_false, beq_iff_eq] at hk
        intro W hW
        refine ⟨fun h0 => (by rw [h0] at hr'; cases hr'), fun j hj => ?_⟩
        have hji : j = i := by rw [hk] at hj; simpa using hj
        subst hji
        refine ⟨hin, ?_⟩
        unfold wpMix at h
        unfold wpOp
        simp only [ho]
        by_cases hw : Region.wanted o (yielded ops a.tmps) = true
        · rw [if_pos hw] at h ⊢
          rcases h W hW with h | h
          · exact .inl (Oper.wp_mono (fun a' w' h' => ⟨h'.1, ih m _ _ _ hm (inv.set hr' hin) hB' h'.2⟩) h)
          · exact .inr h
        · rw [if_neg hw] at h ⊢
          exact ⟨ex_refl W, wpAnyK_ex (ih m _ _ _ hm (inv.set hr' hin) hB' h) hW⟩

/-- The operations of an order. -/
def nth : List Oper → Nat → Oper
  | [], _ => default
  | o :: _, 0 => o
  | _ :: l, k + 1 => nth l k
theorem nth_get (l : List Oper) (k : Nat) (h : k < l.length) : l.toArray[k]? = some (nth l k) := by
  induction l generalizing k with
  | nil => cases h
  | cons o l ih =>
    cases k with
    | zero => simp [nth]
    | succ k => simp only [List.length_cons] at h; have := ih k (by omega); simp [nth] at this ⊢; exact this

/-- **One order serves every order.** -/
theorem wp_region_mix {id : Nat} {a : Act} {w : World} {l : List Oper} (order : List (Nat × Bool)) (n : Nat) (hm : P.follows .mixedOrders = true)
    (hB : (Region.noSelect l.toArray && tailB .any l.toArray n && order.length == n && order.all (fun x => decide (x.1 < l.length)) && mixB .any l.toArray n order (Array.replicate l.toArray.size false)) = true)
    (hQ : ∀ c a d v w, Q (.panic c) (a.put d v) w → Q (.panic c) a w)
    (h : wpMix P l.toArray Q (fun a' w' => wpList P l.toArray Q (l.drop n) a' w') (order.map fun x => (nth l x.1, x.2)) a w.drew) : (Code.region id l.toArray true).wp P Q a w := by
  simp only [Bool.and_eq_true, beq_iff_eq, List.all_eq_true, decide_eq_true_eq] at hB
  obtain ⟨⟨⟨⟨hsel, ht⟩, hlen⟩, hall⟩, hmix⟩ := hB
  have hnl : n ≤ l.length := by
    simp only [tailB, Bool.or_eq_true, beq_iff_eq, Bool.and_eq_true, decide_eq_true_eq] at ht
    rcases ht with ht | ht
    · simp at ht; omega
    · have := ht.1.1; simp at this; omega
  have inv0 : HeadInv .any l.toArray n (Array.replicate l.toArray.size false) :=
    ⟨by simp, fun j oj _ hl => (by rw [getD_replicate_false] at hl; cases hl), fun t _ ht => getD_in (by simpa using ht) (getD_replicate_false _ _)⟩
  have H := wpAnyK_mix (md := .any) hsel hQ ht order (order.map fun x => (nth l x.1, x.2)) _ a w.drew (by
    simp only [List.map_map]
    refine List.map_congr_left fun x hx => ?_
    simp only [Function.comp, Prod.mk.injEq, and_true]
    exact nth_get l x.1 (hall x hx)) inv0 hmix h
  have hdl : (l.drop n).length = l.toArray.size - n := by simp
  refine wp_region_any hm ?_
  have := wpAny_of_K (Q := Q) (g := l.toArray.size - n) (fun listed a' w' hL => by
    have := wpAny_of_seq (md := .any) (Q' := Q) (l.drop n) n listed a' w' (fun j => by simp [List.getElem?_drop]) (by rw [hdl]; exact hL.1) hL.2
    rwa [hdl] at this) _ _ _ _ H
  rw [hlen, show n + (l.toArray.size - n) = l.toArray.size by simp; omega] at this
  exact this

/-! ### New variables that may be made at whatever moment -/

theorem wpOp_putBack {j : Nat} {oi oj : Oper} {v : Value} (hj : ops[j]? = some oj) (hap : oi.apart ops oj = true) (hsj : ∀ cs b, oj.op ≠ .select cs b)
    (hQ : ∀ c a w, Q (.panic c) a w → Q (.panic c) (a.put oi.dst v) w) {K : Act → World → Prop} {a : Act} {w : World} (h : wpOp P ops Q j K a w) :
    wpOp P ops Q j (fun a' w' => ∃ a'', a' = a''.put oi.dst v ∧ K a'' w') (a.put oi.dst v) w := by
  obtain ⟨h1, h2, h3⟩ := Oper.apart_spec hap
  unfold wpOp at *
  simp only [hj] at *
  rw [wanted_put oj a oi.dst v h1]
  split
  · rename_i hw
    simp only [hw, if_true] at h
    rcases h with h | ⟨hasks, hlets⟩
    case inr => exact .inr ⟨by unfold Oper.asks at *; rw [execOp_put oj hsj a oi.dst v h1]; exact hasks, hlets⟩
    refine .inl ?_
    unfold Oper.wp at *
    rw [execOp_put oj hsj a oi.dst v h1]
    generalize (execOp a.eval oj).run P w = r at *
    cases r with
    | ok n w' =>
      cases n <;> simp only [Oper.upon] at h ⊢
      case value u => exact ⟨_, Act.put_comm a v u h2, h⟩
      case skip => exact ⟨_, Act.put_comm a v undef h2, h⟩
      case defer d =>
        rw [Act.put_defers]
        exact ⟨_, Act.put_comm _ v undef h2, h⟩
      case enter f args =>
        refine Calls.mono h fun e w'' he => ?_
        cases e with
        | returned u => exact ⟨_, Act.put_comm a v u h2, he⟩
        | panicked c => exact hQ _ _ _ he
        | outgrown => exact he
      case row row args => exact Rows.mono h fun u w'' he => ⟨_, Act.put_comm a v u h2, he⟩
    | halt x w' =>
      cases x <;> simp only [Oper.upon] at h ⊢
      case panic u => exact hQ _ _ _ h
  · rename_i hw
    simp only [hw] at h
    exact ⟨_, Act.put_comm a v undef h2, h⟩

def ptr (p : Nat) : Value := .pointer (some ⟨p, 0, none⟩)

theorem ex_block {w W : World} (h : Ex w W) {p : Nat} {ob : Obj} (hp : w.heap[p]? = some ob) : W.heap[p]? = some ob := by
  obtain ⟨X, rfl⟩ := h
  have hlt : p < w.heap.size := (Array.getElem?_eq_some_iff.1 hp).1
  rw [wx_heap w X p hlt, hp]

theorem wpAnyK_put {n i : Nat} {oi : Oper} {ob : Obj} {b p : Nat} {L L' : Array Bool → Act → World → Prop} (hsel : Region.noSelect ops = true)
    (hQ : ∀ c a d v w, Q (.panic c) a w → Q (.panic c) (a.put d v) w)
    (hap : ∀ j oj, ops[j]? = some oj → j ≠ i → j < n → oi.apart ops oj = true) (hb : b ≤ p)
    (hL : ∀ listed a w, L' listed a w → w.heap[p]? = some ob → L listed (a.put oi.dst (ptr p)) w) :
    ∀ (f : Nat) (listed : Array Bool) (a : Act) (w : World), listed.getD i true = true → w.heap[p]? = some ob → wpAnyK P md ops Q n L' f listed a w → wpAnyK P md ops Q n L f listed (a.put oi.dst (ptr p)) w := by
  intro f
  induction f with
  | zero => exact fun listed a w _ hp H W hW => hL _ _ _ (H W hW) (ex_block hW hp)
  | succ f ih =>
    intro listed a w hi hp H W hW
    obtain ⟨h0, h1⟩ := H W hW
    refine ⟨h0, fun j hj => ⟨(h1 j hj).1, ?_⟩⟩
    obtain ⟨hjun, oj, hoj, _⟩ := mem_ready.1 hj
    have hji : j ≠ i := fun e => by rw [e, hi] at hjun; cases hjun
    refine wpOp_mono (fun a' w' h3 => ?_) (wpOp_putBack hoj (hap j oj hoj hji (h1 j hj).1) (fun cs b => Region.noSelect_spec hsel j oj cs b hoj) (fun c a w => hQ c a _ _ w) (h1 j hj).2)
    obtain ⟨a'', rfl, h4, h5⟩ := h3
    exact ⟨h4, ih _ _ _ (by rw [getD_set_ne true hji]; exact hi) (ex_block (ex_trans hW h4) hp) h5⟩

theorem wpAnyK_late {n i : Nat} {oi : Oper} {ob : Obj} {b : Nat} {L L' : Array Bool → Act → World → Prop} (hi : ops[i]? = some oi) (hsel : Region.noSelect ops = true)
    (hQ : ∀ c a d v w, Q (.panic c) a w → Q (.panic c) (a.put d v) w) (ht : tailB md ops n = true) (hin : i < n) (hg : oi.guard = none) (he : ∀ e ∈ oi.after, Region.binds md e = false)
    (hal : ∀ ρ W, (execOp ρ oi).run P W = .ok (.value (ptr W.heap.size)) (W.alloc ob))
    (hap : ∀ j oj, ops[j]? = some oj → j ≠ i → j < n → oi.apart ops oj = true)
    (hdone : ∀ listed a w, L' listed a w → ∀ j ∈ Region.ready md ops listed, n ≤ j)
    (hL : ∀ p, b ≤ p → ∀ listed a w, L' listed a w → w.heap[p]? = some ob → L listed (a.put oi.dst (ptr p)) w) :
    ∀ (f : Nat) (listed : Array Bool) (a : Act) (w : World), HeadInv md ops n listed → listed.getD i true = false → b ≤ w.heap.size →
      wpAnyK P md ops Q n L' f (listed.setIfInBounds i true) a w → wpAnyK P md ops Q n L (f + 1) listed a w := by
  have hready : ∀ listed : Array Bool, listed.getD i true = false → i ∈ Region.ready md ops listed := fun listed hun =>
    mem_ready.2 ⟨hun, oi, hi, fun e hm hb => by rw [he e hm] at hb; cases hb⟩
  have hset : ∀ listed : Array Bool, listed.getD i true = false → (listed.setIfInBounds i true).getD i true = true := fun listed _ => by
    rcases Nat.lt_or_ge i listed.size with h | h
    · simp [h]
    · simp [h]
  have hop : ∀ (K : Act → World → Prop) (a : Act) (W : World), K (a.put oi.dst (ptr W.heap.size)) (W.alloc ob) → wpOp P ops Q i K a W := fun K a W h => by
    unfold wpOp
    simp only [hi]
    rw [if_pos (by simp [Region.wanted, hg])]
    refine .inl ?_
    unfold Oper.wp
    rw [hal]
    exact h
  have hnew : ∀ W : World, (W.alloc ob).heap[W.heap.size]? = some ob := fun W => heap_alloc_new W ob
  intro f
  induction f with
  | zero =>
    intro listed a w inv hun hb H W hW
    have hbW : b ≤ W.heap.size := Nat.le_trans hb (ex_below hW).size
    refine ⟨fun h => (by have := hready listed hun; rw [h] at this; cases this), fun j hj => ⟨head_lt ht inv hin hun hj, ?_⟩⟩
    by_cases hji : j = i
    · subst hji
      refine hop _ a W ⟨ex_alloc (ex_refl W) ob, fun V hV => hL _ hbW _ _ _ (H V (ex_trans (ex_alloc hW ob) hV)) (ex_block hV (hnew W))⟩
    · have := hdone _ _ _ (H w (ex_refl w)) j (ready_mono hj hji)
      have := head_lt ht inv hin hun hj
      omega
  | succ f ih =>
    intro listed a w inv hun hb H W hW
    have hbW : b ≤ W.heap.size := Nat.le_trans hb (ex_below hW).size
    refine ⟨fun h => (by have := hready listed hun; rw [h] at this; cases this), fun j hj => ⟨head_lt ht inv hin hun hj, ?_⟩⟩
    by_cases hji : j = i
    · subst hji
      exact hop _ a W ⟨ex_alloc (ex_refl W) ob, wpAnyK_put hsel hQ hap hbW (hL _ hbW) (f + 1) _ _ _ (hset listed hun) (hnew W) (wpAnyK_ex H (ex_alloc hW ob))⟩
    · have h1 := ((H W hW).2 j (ready_mono hj hji)).2
      refine wpOp_mono (fun a' w' h3 => ⟨h3.1, ih (listed.setIfInBounds j true) a' w' (inv.set hj (head_lt ht inv hin hun hj)) (by rw [getD_set_ne true hji]; exact hun)
        (Nat.le_trans hbW (ex_below h3.1).size) ?_⟩) h1
      rw [Array.setIfInBounds_comm _ _ hji]
      exact h3.2

/-- What is asked behind the head, of whatever place a new variable has. -/
def lateR (b : Nat) (R : Act → World → Prop) : List (Option Tmp × Obj) → Act → World → Prop
  | [], a, w => R a w
  | (d, ob) :: r, a, w => lateR b (fun a w => ∀ q, w.heap[b + q]? = some ob → R (a.put d (ptr (b + q))) w) r a w

theorem wpAnyK_lates {n b : Nat} {L0 : Array Bool → Prop} (hsel : Region.noSelect ops = true) (hQ : ∀ c a d v w, Q (.panic c) a w → Q (.panic c) (a.put d v) w) (ht : tailB md ops n = true)
    (hdone : ∀ listed, L0 listed → ∀ j ∈ Region.ready md ops listed, n ≤ j) :
    ∀ (ls : List (Nat × Option Tmp × Obj)) (R : Act → World → Prop) (f : Nat) (listed : Array Bool) (a : Act) (w : World),
      (∀ x ∈ ls, ∃ oi, ops[x.1]? = some oi ∧ oi.dst = x.2.1 ∧ oi.guard = none ∧ x.1 < n ∧ (∀ e ∈ oi.after, Region.binds md e = false) ∧ (∀ ρ W, (execOp ρ oi).run P W = .ok (.value (ptr W.heap.size)) (W.alloc x.2.2)) ∧
        (∀ j oj, ops[j]? = some oj → j ≠ x.1 → j < n → oi.apart ops oj = true)) → (ls.map (·.1)).Nodup → HeadInv md ops n listed → (∀ x ∈ ls, listed.getD x.1 true = false) → b ≤ w.heap.size →
      wpAnyK P md ops Q n (fun l a w => L0 l ∧ lateR b R (ls.map (·.2)) a w) f (ls.foldl (fun l x => l.setIfInBounds x.1 true) listed) a w → wpAnyK P md ops Q n (fun l a w => L0 l ∧ R a w) (f + ls.length) listed a w
  | [], _, _, _, _, _, _, _, _, _, _, h => h
  | x :: ls, R, f, listed, a, w, hx, hnd, inv, hun, hb, h => by
    obtain ⟨oi, hi, hd, hg, hin, he, hal, hap⟩ := hx x List.mem_cons_self
    simp only [List.map_cons, List.nodup_cons] at hnd
    have hr : x.1 ∈ Region.ready md ops listed := mem_ready.2 ⟨hun x List.mem_cons_self, oi, hi, fun e hm hb' => by rw [he e hm] at hb'; cases hb'⟩
    have IH := wpAnyK_lates (b := b) (L0 := L0) hsel hQ ht hdone ls (fun a w => ∀ q, w.heap[b + q]? = some x.2.2 → R (a.put x.2.1 (ptr (b + q))) w) f (listed.setIfInBounds x.1 true) a w
      (fun y hy => hx y (List.mem_cons_of_mem _ hy)) hnd.2 (inv.set hr hin) (fun y hy => by
        rw [getD_set_ne true (fun e => hnd.1 (by rw [e]; exact List.mem_map_of_mem hy))]; exact hun y (List.mem_cons_of_mem _ hy)) hb h
    have := wpAnyK_late (ob := x.2.2) (b := b) (L := fun l a w => L0 l ∧ R a w) hi hsel hQ ht hin hg he hal hap (fun l a w hl => hdone l hl.1)
      (fun p hp l a w hl hw => ⟨hl.1, by rw [hd]; have := hl.2 (p - b); rw [show b + (p - b) = p by omega] at this; exact this hw⟩) (f + ls.length) listed a w inv (hun x List.mem_cons_self) hb IH
    rwa [List.length_cons, ← Nat.add_assoc]

/-- What the kernel sees of an operation that makes a new variable. -/
def lateB (md : Region.Mode) (ops : Array Oper) (n i : Nat) : Bool :=
  match ops[i]? with
  | some oi => oi.guard.isNone && decide (i < n) && oi.after.all (fun e => !Region.binds md e) && (List.range n).all (fun j => j == i || match ops[j]? with | some oj => oi.apart ops oj | none => true)
  | none => false

/-- **One order serves every order**, new variables made at whatever moment. -/
theorem wp_region_late {id : Nat} {a : Act} {w : World} {l : List Oper} (order : List (Nat × Bool)) (n : Nat) (lates : List (Nat × Option Tmp × Obj)) (hm : P.follows .mixedOrders = true)
    (hB : (Region.noSelect l.toArray && tailB .any l.toArray n && order.length + lates.length == n && order.all (fun x => decide (x.1 < l.length)) && (lates.map (·.1)).all (fun i => decide (i < l.length) && lateB .any l.toArray n i) &&
      decide (lates.map (·.1)).Nodup && mixB .any l.toArray n order ((lates.map (·.1)).foldl (fun l i => l.setIfInBounds i true) (Array.replicate l.toArray.size false))) = true)
    (hd : lates.map (fun x => (nth l x.1).dst) = lates.map (·.2.1))
    (hal : ∀ x ∈ lates, ∀ ρ W, (execOp ρ (nth l x.1)).run P W = .ok (.value (ptr W.heap.size)) (W.alloc x.2.2))
    (hQ : ∀ c a d v w, Q (.panic c) (a.put d v) w → Q (.panic c) a w) (hQ' : ∀ c a d v w, Q (.panic c) a w → Q (.panic c) (a.put d v) w)
    (h : wpMix P l.toArray Q (lateR w.heap.size (fun a' w' => wpList P l.toArray Q (l.drop n) a' w') (lates.map (·.2))) (order.map fun x => (nth l x.1, x.2)) a w.drew) : (Code.region id l.toArray true).wp P Q a w := by
  simp only [Bool.and_eq_true, beq_iff_eq, List.all_eq_true, decide_eq_true_eq] at hB
  obtain ⟨⟨⟨⟨⟨⟨hsel, ht⟩, hlen⟩, hall⟩, hlate⟩, hnd⟩, hmix⟩ := hB
  have inv0 : HeadInv .any l.toArray n (Array.replicate l.toArray.size false) :=
    ⟨by simp, fun j oj _ hl => (by rw [getD_replicate_false] at hl; cases hl), fun t _ ht => getD_in (by simpa using ht) (getD_replicate_false _ _)⟩
  have hlate' : ∀ x ∈ lates, x.1 < l.length ∧ x.1 < n ∧ (nth l x.1).guard = none ∧ (∀ e ∈ (nth l x.1).after, Region.binds .any e = false) ∧ (∀ j oj, l.toArray[j]? = some oj → j ≠ x.1 → j < n → (nth l x.1).apart l.toArray oj = true) := fun x hx => by
    obtain ⟨h1, h2⟩ := hlate x.1 (List.mem_map_of_mem hx)
    simp only [lateB, nth_get l x.1 h1, Bool.and_eq_true, decide_eq_true_eq, Option.isNone_iff_eq_none] at h2
    obtain ⟨⟨⟨h3, h4⟩, h5⟩, h6⟩ := h2
    refine ⟨h1, h4, h3, fun e he => by simpa using Array.all_eq_true_iff_forall_mem.1 h5 e he, fun j oj hj hji hjn => ?_⟩
    have h7 := List.all_eq_true.1 h6 j (List.mem_range.2 hjn)
    simp only [hj, Bool.or_eq_true, beq_iff_eq] at h7
    exact h7.resolve_left hji
  have hun0 : ∀ x ∈ lates, (Array.replicate l.toArray.size false).getD x.1 true = false := fun x hx => getD_in (by simpa using (hlate' x hx).1) (getD_replicate_false _ _)
  -- the invariant where the new variables are listed
  have hfold : ∀ (ls : List (Nat × Option Tmp × Obj)) (listed : Array Bool), (∀ x ∈ ls, x ∈ lates) → (ls.map (·.1)).Nodup → HeadInv .any l.toArray n listed → (∀ x ∈ ls, listed.getD x.1 true = false) →
      HeadInv .any l.toArray n (ls.foldl (fun l x => l.setIfInBounds x.1 true) listed) := by
    intro ls
    induction ls with
    | nil => exact fun _ _ _ inv _ => inv
    | cons x ls ih =>
      intro listed hsub hnd inv hun
      obtain ⟨h1, h2, h3, h4, h5⟩ := hlate' x (hsub x List.mem_cons_self)
      simp only [List.map_cons, List.nodup_cons] at hnd
      have hr : x.1 ∈ Region.ready .any l.toArray listed := mem_ready.2 ⟨hun x List.mem_cons_self, nth l x.1, nth_get l x.1 h1, fun e hm hb' => by rw [h4 e hm] at hb'; cases hb'⟩
      exact ih _ (fun y hy => hsub y (List.mem_cons_of_mem _ hy)) hnd.2 (inv.set hr h2) (fun y hy => by
        rw [getD_set_ne true (fun e => hnd.1 (by rw [e]; exact List.mem_map_of_mem hy))]; exact hun y (List.mem_cons_of_mem _ hy))
  have hfm : ∀ listed : Array Bool, (lates.map (·.1)).foldl (fun l i => l.setIfInBounds i true) listed = lates.foldl (fun l x => l.setIfInBounds x.1 true) listed := fun listed => List.foldl_map
  rw [hfm] at hmix
  have H := wpAnyK_mix (md := .any) hsel hQ ht order (order.map fun x => (nth l x.1, x.2)) _ a w.drew (by
    simp only [List.map_map]
    refine List.map_congr_left fun x hx => ?_
    simp only [Function.comp, Prod.mk.injEq, and_true]
    exact nth_get l x.1 (hall x hx)) (hfold lates _ (fun _ h => h) hnd inv0 hun0) hmix h
  have hd' : ∀ x ∈ lates, (nth l x.1).dst = x.2.1 := fun x hx => List.map_inj_left.1 hd x hx
  have H2 := wpAnyK_lates (b := w.heap.size) (L0 := fun listed' => Region.seqB .any l.toArray (l.toArray.size - n) n listed' = true) hsel hQ' ht (fun listed h => seqB_ready h) lates
    (fun a' w' => wpList P l.toArray Q (l.drop n) a' w') order.length _ a w.drew
    (fun x hx => ⟨nth l x.1, nth_get l x.1 (hlate' x hx).1, hd' x hx, (hlate' x hx).2.2.1, (hlate' x hx).2.1, (hlate' x hx).2.2.2.1, hal x hx, (hlate' x hx).2.2.2.2⟩) hnd inv0 hun0 (Nat.le_refl _) H
  have hnl : n ≤ l.length := by
    simp only [tailB, Bool.or_eq_true, beq_iff_eq, Bool.and_eq_true, decide_eq_true_eq] at ht
    rcases ht with ht | ht
    · simp at ht; omega
    · have := ht.1.1; simp at this; omega
  have hdl : (l.drop n).length = l.toArray.size - n := by simp
  refine wp_region_any hm ?_
  have := wpAny_of_K (Q := Q) (g := l.toArray.size - n) (fun listed a' w' hL => by
    have := wpAny_of_seq (md := .any) (Q' := Q) (l.drop n) n listed a' w' (fun j => by simp [List.getElem?_drop]) (by rw [hdl]; exact hL.1) hL.2
    rwa [hdl] at this) _ _ _ _ H2
  rw [hlen, show n + (l.toArray.size - n) = l.toArray.size by simp; omega] at this
  exact this
theorem mixQ_mk {R : Act → World → Prop} {a' : Act} {w w' : World} (h : Ex w w') (k : R a' w') : MixQ Q R w .normal a' w' := ⟨h, k⟩
end
end Go.Proofs.YtabjamkkhlbajaaDoor

/- A region that draws its order, walked in one order at one world: what looks sees what the region began with; what is made may turn what the region itself has made. Over whatever program. -/
set_option linter.unusedSimpArgs false
set_option linter.unusedVariables false
set_option maxRecDepth 20000
namespace Go.Proofs.YtabjamkkhlbajaaDoor
open Go.RowKit
theorem ex_drewL {w W : World} (h : Ex w W) : Ex w.drew W := by obtain ⟨X, rfl⟩ := h; exact ⟨X, rfl⟩
/-- What a growing row leaves, as what lies behind. -/
theorem exOf {A w w1 : World} (k : Ex A w) (hbe : Below A.heap.size w w1) : ∃ X, w1 = wx A X := ex_of_below ((ex_below k).trans hbe)
section
variable {P : Program} {ops : Array Oper} {Q : Exit → Act → World → Prop} {md : Region.Mode}
def wpSeq (P : Program) (ops : Array Oper) (Q : Exit → Act → World → Prop) (A : World) : List (Oper × Bool) → Act → World → Prop
  | [], a, w => Q .normal a w
  | (o, true) :: r, a, w => if Region.wanted o (yielded ops a.tmps) then o.quiet P a (Ex A) (fun a' => wpSeq P ops Q A r a' w) else wpSeq P ops Q A r (a.put o.dst undef) w
  | (o, false) :: r, a, w => if Region.wanted o (yielded ops a.tmps) then (o.wp P a w (fun a' w' => Ex A w' ∧ wpSeq P ops Q A r a' w') Q ∨ (o.asks P a w ∧ LetsOut Q)) else wpSeq P ops Q A r (a.put o.dst undef) w
theorem wpSeq_look {A : World} {o : Oper} {r : List (Oper × Bool)} {a : Act} {w : World}
    (h : wpQuiet P ops (fun w' => ∃ X, w' = wx A X) (fun a' => wpSeq P ops Q A r a' w) [o] a) : wpSeq P ops Q A ((o, true) :: r) a w := h
theorem wpSeq_eff {A : World} {o : Oper} {r : List (Oper × Bool)} {a : Act} {w : World} (hw : Region.wanted o (yielded ops a.tmps) = true)
    (h : wpList P ops (MixQ Q (wpSeq P ops Q A r) A) [{ o with guard := none }] a w) : wpSeq P ops Q A ((o, false) :: r) a w := by
  unfold wpSeq
  rw [if_pos hw]
  unfold wpList at h
  rw [if_pos (by simp [Region.wanted])] at h
  rcases h with h | ⟨h1, h2⟩
  · exact .inl (mixQ_wp (Oper.wp_mono (fun a' w' h' => h') h))
  · exact .inr ⟨h1, h2⟩
theorem wpSeq_effF {A : World} {o : Oper} {r : List (Oper × Bool)} {a : Act} {w : World} (hw : Region.wanted o (yielded ops a.tmps) = false)
    (h : wpSeq P ops Q A r (a.put o.dst undef) w) : wpSeq P ops Q A ((o, false) :: r) a w := by
  unfold wpSeq
  rw [hw]
  exact h
theorem wpSeq_nil {A : World} {a : Act} {w : World} (h : Q .normal a w) : wpSeq P ops Q A [] a w := h
def seqOk (md : Region.Mode) (ops : Array Oper) : List (Nat × Bool) → Array Bool → Bool
  | [], listed => Region.ready md ops listed == []
  | (i, look) :: r, listed => (Region.ready md ops listed).contains i && (if look then Region.free md ops listed i && ((ops[i]?).map (fun o => isLook o.op)).getD false else Region.ready md ops listed == [i]) &&
      seqOk md ops r (listed.setIfInBounds i true)
theorem wpAnyH_seq {A : World} (hsel : Region.noSelect ops = true) (hQ : ∀ c a d v w, Q (.panic c) (a.put d v) w → Q (.panic c) a w) :
    ∀ (l : List (Nat × Bool)) (m : List (Oper × Bool)) (listed : Array Bool) (a : Act) (w : World), l.map (fun x => (ops[x.1]?, x.2)) = m.map (fun x => (some x.1, x.2)) → seqOk md ops l listed = true → Ex A w →
      wpSeq P ops Q A m a w → wpAnyH P md ops Q (Ex A) l.length listed a w := by
  intro l
  induction l with
  | nil =>
    intro m listed a w hm hB hA h
    cases m with
    | nil => exact wpAnyH_done (by simpa [seqOk] using hB) h _
    | cons x m => cases hm
  | cons x l ih =>
    intro m listed a w hm hB hA h
    obtain ⟨i, look⟩ := x
    cases m with
    | nil => cases hm
    | cons y m =>
      obtain ⟨o, look'⟩ := y
      simp only [List.map_cons, List.cons.injEq, Prod.mk.injEq] at hm
      obtain ⟨⟨ho, rfl⟩, hm⟩ := hm
      simp only [seqOk, Bool.and_eq_true] at hB
      obtain ⟨⟨hr, hk⟩, hB'⟩ := hB
      cases look with
      | true =>
        simp only [if_true, Bool.and_eq_true] at hk
        obtain ⟨hf, hl⟩ := hk
        have hl' : isLook o.op = true := by simpa [ho] using hl
        have hst : ∃ v, YieldsIf P ops (Ex A) o v a ∧ wpSeq P ops Q A m (a.put o.dst v) w := by
          unfold wpSeq at h
          by_cases hw : Region.wanted o (yielded ops a.tmps) = true
          · rw [if_pos hw] at h
            obtain ⟨v, h1, h2⟩ := h
            refine ⟨v, .inl ⟨hw, fun w' hw' => ?_⟩, h2⟩
            have h3 := h1 w' hw'
            unfold Oper.quietAt at h3
            cases hrun : (execOp a.eval o).run P w' with
            | ok x w1 =>
              obtain ⟨u, rfl⟩ := look_value hl' a.eval w' x w1 hrun
              rw [hrun] at h3
              simp only [Oper.quietUpon] at h3
              rw [h3.1, h3.2]
            | halt x w1 => rw [hrun] at h3; exact h3.elim
          · rw [if_neg hw] at h
            exact ⟨undef, .inr ⟨by simpa using hw, rfl⟩, h⟩
        obtain ⟨v, hy, hK⟩ := hst
        exact wpAnyH_take ho hsel hf hr (fun c a w => hQ c a _ _ w) hy hA (ih m _ _ _ hm hB' hA hK)
      | false =>
        simp only [Bool.false_eq_true, if_false, beq_iff_eq] at hk
        refine wpAnyH_all hk (by simp) fun j hj => ?_
        have hji : j = i := by simpa using hj
        subst hji
        unfold wpSeq at h
        unfold wpOp
        simp only [ho]
        by_cases hw : Region.wanted o (yielded ops a.tmps) = true
        · rw [if_pos hw] at h ⊢
          rcases h with h | h
          · exact .inl (Oper.wp_mono (fun a' w' h' => ⟨h'.1, ih m _ _ _ hm hB' h'.1 h'.2⟩) h)
          · exact .inr h
        · rw [if_neg hw] at h ⊢
          exact ⟨hA, ih m _ _ _ hm hB' hA h⟩
/-- The same, over an elder world. -/
theorem wp_region_seqA {id : Nat} {a : Act} {w : World} {l : List Oper} (A : World) (order : List (Nat × Bool)) (hA : Ex A w.drew) (hm : P.follows .mixedOrders = true)
    (hB : (Region.noSelect l.toArray && order.length == l.toArray.size && order.all (fun x => decide (x.1 < l.length)) && seqOk .any l.toArray order (Array.replicate l.toArray.size false)) = true)
    (hQ : ∀ c a d v w, Q (.panic c) (a.put d v) w → Q (.panic c) a w)
    (h : wpSeq P l.toArray Q A (order.map fun x => (nth l x.1, x.2)) a w.drew) : (Code.region id l.toArray true).wp P Q a w := by
  simp only [Bool.and_eq_true, beq_iff_eq, List.all_eq_true, decide_eq_true_eq] at hB
  obtain ⟨⟨⟨hsel, hlen⟩, hall⟩, hseq⟩ := hB
  refine wp_region_held (S := Ex A) hm ?_
  have H := wpAnyH_seq (md := .any) (P := P) (A := A) hsel hQ order (order.map fun x => (nth l x.1, x.2)) (Array.replicate l.toArray.size false) a w.drew (by
    simp only [List.map_map]
    refine List.map_congr_left fun x hx => ?_
    simp only [Function.comp, Prod.mk.injEq, and_true]
    exact nth_get l x.1 (hall x hx)) hseq hA h
  rwa [hlen] at H
end
end Go.Proofs.YtabjamkkhlbajaaDoor

/- A region that draws its order, at one world, where two of what makes may come up in either order. Over whatever program. -/
set_option linter.unusedSimpArgs false
set_option linter.unusedVariables false
set_option maxRecDepth 20000
namespace Go.Proofs.YtabjamkkhlbajaaDoor
open Go.RowKit
section
variable {P : Program} {ops : Array Oper} {Q : Exit → Act → World → Prop} {md : Region.Mode}
def effT (P : Program) (ops : Array Oper) (Q : Exit → Act → World → Prop) (A : World) (o : Oper) (K : Act → World → Prop) (a : Act) (w : World) : Prop :=
  if Region.wanted o (yielded ops a.tmps) then (o.wp P a w (fun a' w' => Ex A w' ∧ K a' w') Q ∨ (o.asks P a w ∧ LetsOut Q)) else K (a.put o.dst undef) w
theorem effT_T {A : World} {o : Oper} {K : Act → World → Prop} {a : Act} {w : World} (hw : Region.wanted o (yielded ops a.tmps) = true)
    (h : wpList P ops (MixQ Q K A) [{ o with guard := none }] a w) : effT P ops Q A o K a w := by
  unfold effT
  rw [if_pos hw]
  unfold wpList at h
  rw [if_pos (by simp [Region.wanted])] at h
  rcases h with h | ⟨h1, h2⟩
  · exact .inl (mixQ_wp (Oper.wp_mono (fun a' w' h' => h') h))
  · exact .inr ⟨h1, h2⟩
theorem effT_F {A : World} {o : Oper} {K : Act → World → Prop} {a : Act} {w : World} (hw : Region.wanted o (yielded ops a.tmps) = false) (h : K (a.put o.dst undef) w) : effT P ops Q A o K a w := by
  unfold effT
  rw [hw]
  exact h
theorem effT_op {A : World} {i : Nat} {o : Oper} {K : Act → World → Prop} {a : Act} {w : World} (hi : ops[i]? = some o) (hA : Ex A w) (h : effT P ops Q A o K a w) : wpOp P ops Q i (fun a' w' => Ex A w' ∧ K a' w') a w := by
  unfold effT at h
  unfold wpOp
  simp only [hi]
  by_cases hw : Region.wanted o (yielded ops a.tmps) = true
  · rw [if_pos hw] at h ⊢; exact h
  · rw [if_neg hw] at h ⊢; exact ⟨hA, h⟩
end
end Go.Proofs.YtabjamkkhlbajaaDoor

/- A region that draws its order, over an elder world, where what makes may come up in several orders: a tree of orders. Over whatever program. -/
set_option linter.unusedSimpArgs false
set_option linter.unusedVariables false
set_option maxRecDepth 20000
namespace Go.Proofs.YtabjamkkhlbajaaDoor
open Go.RowKit
/-- A tree of orders: by index; by operation. -/
inductive Fk where
  | done
  | look (i : Nat) (r : Fk)
  | eff (i : Nat) (r : Fk)
  | fork (i : Nat) (x : Fk) (j : Nat) (y : Fk)
inductive FkO where
  | done
  | look (o : Oper) (r : FkO)
  | eff (o : Oper) (r : FkO)
  | fork (o : Oper) (x : FkO) (p : Oper) (y : FkO)
def Fk.len : Fk → Nat
  | .done => 0
  | .look _ r => r.len + 1
  | .eff _ r => r.len + 1
  | .fork _ x _ _ => x.len + 1
def Fk.fits (n : Nat) : Fk → Bool
  | .done => true
  | .look i r => decide (i < n) && r.fits n
  | .eff i r => decide (i < n) && r.fits n
  | .fork i x j y => decide (i < n) && decide (j < n) && (x.len == y.len) && x.fits n && y.fits n
def Fk.ops (l : List Oper) : Fk → FkO
  | .done => .done
  | .look i r => .look (nth l i) (r.ops l)
  | .eff i r => .eff (nth l i) (r.ops l)
  | .fork i x j y => .fork (nth l i) (x.ops l) (nth l j) (y.ops l)
section
variable {P : Program} {ops : Array Oper} {Q : Exit → Act → World → Prop} {md : Region.Mode}
def wpFork (P : Program) (ops : Array Oper) (Q : Exit → Act → World → Prop) (A : World) : FkO → Act → World → Prop
  | .done, a, w => Q .normal a w
  | .look o r, a, w => if Region.wanted o (yielded ops a.tmps) then o.quiet P a (Ex A) (fun a' => wpFork P ops Q A r a' w) else wpFork P ops Q A r (a.put o.dst undef) w
  | .eff o r, a, w => effT P ops Q A o (wpFork P ops Q A r) a w
  | .fork o x p y, a, w => effT P ops Q A o (wpFork P ops Q A x) a w ∧ effT P ops Q A p (wpFork P ops Q A y) a w
theorem wpFork_look {A : World} {o : Oper} {r : FkO} {a : Act} {w : World}
    (h : wpQuiet P ops (fun w' => ∃ X, w' = wx A X) (fun a' => wpFork P ops Q A r a' w) [o] a) : wpFork P ops Q A (.look o r) a w := h
theorem wpFork_eff {A : World} {o : Oper} {r : FkO} {a : Act} {w : World} (h : effT P ops Q A o (wpFork P ops Q A r) a w) : wpFork P ops Q A (.eff o r) a w := h
theorem wpFork_nil {A : World} {a : Act} {w : World} (h : Q .normal a w) : wpFork P ops Q A .done a w := h
def forkOk (md : Region.Mode) (ops : Array Oper) : Fk → Array Bool → Bool
  | .done, listed => Region.ready md ops listed == []
  | .look i r, listed => (Region.ready md ops listed).contains i && (Region.free md ops listed i && ((ops[i]?).map (fun o => isLook o.op)).getD false) && forkOk md ops r (listed.setIfInBounds i true)
  | .eff i r, listed => Region.ready md ops listed == [i] && forkOk md ops r (listed.setIfInBounds i true)
  | .fork i x j y, listed => Region.ready md ops listed == [i, j] && forkOk md ops x (listed.setIfInBounds i true) && forkOk md ops y (listed.setIfInBounds j true)
theorem wpAnyH_fork {A : World} {l : List Oper} (hl : l.toArray = ops) (hsel : Region.noSelect ops = true) (hQ : ∀ c a d v w, Q (.panic c) (a.put d v) w → Q (.panic c) a w) :
    ∀ (t : Fk) (listed : Array Bool) (a : Act) (w : World), t.fits l.length = true → forkOk md ops t listed = true → Ex A w →
      wpFork P ops Q A (t.ops l) a w → wpAnyH P md ops Q (Ex A) t.len listed a w := by
  subst hl
  intro t
  induction t with
  | done => exact fun listed a w _ hB hA h => wpAnyH_done (by simpa [forkOk] using hB) h _
  | look i r ih =>
    intro listed a w hF hB hA h
    simp only [Fk.fits, Bool.and_eq_true, decide_eq_true_eq] at hF
    simp only [forkOk, Bool.and_eq_true] at hB
    obtain ⟨⟨hr, hf, hk⟩, hB'⟩ := hB
    have ho := nth_get l i hF.1
    have hl' : isLook (nth l i).op = true := by simpa [ho] using hk
    have hst : ∃ v, YieldsIf P l.toArray (Ex A) (nth l i) v a ∧ wpFork P l.toArray Q A (r.ops l) (a.put (nth l i).dst v) w := by
      unfold Fk.ops wpFork at h
      by_cases hw : Region.wanted (nth l i) (yielded l.toArray a.tmps) = true
      · rw [if_pos hw] at h
        obtain ⟨v, h1, h2⟩ := h
        refine ⟨v, .inl ⟨hw, fun w' hw' => ?_⟩, h2⟩
        have h3 := h1 w' hw'
        unfold Oper.quietAt at h3
        cases hrun : (execOp a.eval (nth l i)).run P w' with
        | ok x w1 =>
          obtain ⟨u, rfl⟩ := look_value hl' a.eval w' x w1 hrun
          rw [hrun] at h3
          simp only [Oper.quietUpon] at h3
          rw [h3.1, h3.2]
        | halt x w1 => rw [hrun] at h3; exact h3.elim
      · rw [if_neg hw] at h
        exact ⟨undef, .inr ⟨by simpa using hw, rfl⟩, h⟩
    obtain ⟨v, hy, hK⟩ := hst
    exact wpAnyH_take ho hsel hf hr (fun c a w => hQ c a _ _ w) hy hA (ih _ _ _ hF.2 hB' hA hK)
  | eff i r ih =>
    intro listed a w hF hB hA h
    simp only [Fk.fits, Bool.and_eq_true, decide_eq_true_eq] at hF
    simp only [forkOk, Bool.and_eq_true, beq_iff_eq] at hB
    obtain ⟨hk, hB'⟩ := hB
    refine wpAnyH_all hk (by simp) fun j hj => ?_
    have hji : j = i := by simpa using hj
    subst hji
    exact wpOp_mono (fun a' w' h' => ⟨h'.1, ih _ _ _ hF.2 hB' h'.1 h'.2⟩) (effT_op (nth_get l j hF.1) hA h)
  | fork i x j y ihx ihy =>
    intro listed a w hF hB hA h
    simp only [Fk.fits, Bool.and_eq_true, decide_eq_true_eq, beq_iff_eq] at hF
    obtain ⟨⟨⟨⟨hi, hj⟩, hlen⟩, hfx⟩, hfy⟩ := hF
    simp only [forkOk, Bool.and_eq_true, beq_iff_eq] at hB
    obtain ⟨⟨hk, hBx⟩, hBy⟩ := hB
    refine wpAnyH_all hk (by simp) fun q hq => ?_
    have hq2 : q = i ∨ q = j := by simpa using hq
    rcases hq2 with rfl | rfl
    · exact wpOp_mono (fun a' w' h' => ⟨h'.1, ihx _ _ _ hfx hBx h'.1 h'.2⟩) (effT_op (nth_get l q hi) hA h.1)
    · refine wpOp_mono (fun a' w' h' => ⟨h'.1, ?_⟩) (effT_op (nth_get l q hj) hA h.2)
      show wpAnyH P md l.toArray Q (Ex A) x.len _ a' w'
      rw [hlen]
      exact ihy _ _ _ hfy hBy h'.1 h'.2
/-- **A tree of orders serves every order.** -/
theorem wp_region_fork {id : Nat} {a : Act} {w : World} {l : List Oper} (A : World) (t : Fk) (hA : Ex A w.drew) (hm : P.follows .mixedOrders = true)
    (hB : (Region.noSelect l.toArray && t.len == l.toArray.size && t.fits l.length && forkOk .any l.toArray t (Array.replicate l.toArray.size false)) = true)
    (hQ : ∀ c a d v w, Q (.panic c) (a.put d v) w → Q (.panic c) a w)
    (h : wpFork P l.toArray Q A (t.ops l) a w.drew) : (Code.region id l.toArray true).wp P Q a w := by
  simp only [Bool.and_eq_true, beq_iff_eq] at hB
  obtain ⟨⟨⟨hsel, hlen⟩, hall⟩, hseq⟩ := hB
  refine wp_region_held (S := Ex A) hm ?_
  have H := wpAnyH_fork (md := .any) (P := P) (A := A) rfl hsel hQ t (Array.replicate l.toArray.size false) a w.drew hall hseq hA h
  rwa [hlen] at H
end
end Go.Proofs.YtabjamkkhlbajaaDoor

/- A region that draws its order, over an elder world, where up to three things that make may come up at once: a tree of orders. Over whatever program. -/
set_option linter.unusedSimpArgs false
set_option linter.unusedVariables false
set_option maxRecDepth 20000
namespace Go.Proofs.YtabjamkkhlbajaaDoor
open Go.RowKit
/-- A tree of orders: by index; by operation. -/
inductive Fj where
  | done
  | look (i : Nat) (r : Fj)
  | eff (i : Nat) (r : Fj)
  | fork (i : Nat) (x : Fj) (j : Nat) (y : Fj)
  | three (i : Nat) (x : Fj) (j : Nat) (y : Fj) (k : Nat) (z : Fj)
inductive FjO where
  | done
  | look (o : Oper) (r : FjO)
  | eff (o : Oper) (r : FjO)
  | fork (o : Oper) (x : FjO) (p : Oper) (y : FjO)
  | three (o : Oper) (x : FjO) (p : Oper) (y : FjO) (q : Oper) (z : FjO)
def Fj.len : Fj → Nat
  | .done => 0
  | .look _ r => r.len + 1
  | .eff _ r => r.len + 1
  | .fork _ x _ _ => x.len + 1
  | .three _ x _ _ _ _ => x.len + 1
def Fj.fits (n : Nat) : Fj → Bool
  | .done => true
  | .look i r => decide (i < n) && r.fits n
  | .eff i r => decide (i < n) && r.fits n
  | .fork i x j y => decide (i < n) && decide (j < n) && (x.len == y.len) && x.fits n && y.fits n
  | .three i x j y k z => decide (i < n) && decide (j < n) && decide (k < n) && (x.len == y.len) && (x.len == z.len) && x.fits n && y.fits n && z.fits n
def Fj.ops (l : List Oper) : Fj → FjO
  | .done => .done
  | .look i r => .look (nth l i) (r.ops l)
  | .eff i r => .eff (nth l i) (r.ops l)
  | .fork i x j y => .fork (nth l i) (x.ops l) (nth l j) (y.ops l)
  | .three i x j y k z => .three (nth l i) (x.ops l) (nth l j) (y.ops l) (nth l k) (z.ops l)
section
variable {P : Program} {ops : Array Oper} {Q : Exit → Act → World → Prop} {md : Region.Mode}
def wpForkJ (P : Program) (ops : Array Oper) (Q : Exit → Act → World → Prop) (A : World) : FjO → Act → World → Prop
  | .done, a, w => Q .normal a w
  | .look o r, a, w => if Region.wanted o (yielded ops a.tmps) then o.quiet P a (Ex A) (fun a' => wpForkJ P ops Q A r a' w) else wpForkJ P ops Q A r (a.put o.dst undef) w
  | .eff o r, a, w => effT P ops Q A o (wpForkJ P ops Q A r) a w
  | .fork o x p y, a, w => effT P ops Q A o (wpForkJ P ops Q A x) a w ∧ effT P ops Q A p (wpForkJ P ops Q A y) a w
  | .three o x p y q z, a, w => effT P ops Q A o (wpForkJ P ops Q A x) a w ∧ effT P ops Q A p (wpForkJ P ops Q A y) a w ∧ effT P ops Q A q (wpForkJ P ops Q A z) a w
theorem wpForkJ_look {A : World} {o : Oper} {r : FjO} {a : Act} {w : World}
    (h : wpQuiet P ops (fun w' => ∃ X, w' = wx A X) (fun a' => wpForkJ P ops Q A r a' w) [o] a) : wpForkJ P ops Q A (.look o r) a w := h
theorem wpForkJ_eff {A : World} {o : Oper} {r : FjO} {a : Act} {w : World} (h : effT P ops Q A o (wpForkJ P ops Q A r) a w) : wpForkJ P ops Q A (.eff o r) a w := h
theorem wpForkJ_fork {A : World} {o p : Oper} {x y : FjO} {a : Act} {w : World} (h : effT P ops Q A o (wpForkJ P ops Q A x) a w) (k : effT P ops Q A p (wpForkJ P ops Q A y) a w) : wpForkJ P ops Q A (.fork o x p y) a w := ⟨h, k⟩
theorem wpForkJ_three {A : World} {o p q : Oper} {x y z : FjO} {a : Act} {w : World} (h : effT P ops Q A o (wpForkJ P ops Q A x) a w) (k : effT P ops Q A p (wpForkJ P ops Q A y) a w) (m : effT P ops Q A q (wpForkJ P ops Q A z) a w) : wpForkJ P ops Q A (.three o x p y q z) a w := ⟨h, k, m⟩
theorem wpForkJ_nil {A : World} {a : Act} {w : World} (h : Q .normal a w) : wpForkJ P ops Q A .done a w := h
def forkJOk (md : Region.Mode) (ops : Array Oper) : Fj → Array Bool → Bool
  | .done, listed => Region.ready md ops listed == []
  | .look i r, listed => (Region.ready md ops listed).contains i && (Region.free md ops listed i && ((ops[i]?).map (fun o => isLook o.op)).getD false) && forkJOk md ops r (listed.setIfInBounds i true)
  | .eff i r, listed => Region.ready md ops listed == [i] && forkJOk md ops r (listed.setIfInBounds i true)
  | .three i x j y k z, listed => Region.ready md ops listed == [i, j, k] && forkJOk md ops x (listed.setIfInBounds i true) && forkJOk md ops y (listed.setIfInBounds j true) && forkJOk md ops z (listed.setIfInBounds k true)
  | .fork i x j y, listed => Region.ready md ops listed == [i, j] && forkJOk md ops x (listed.setIfInBounds i true) && forkJOk md ops y (listed.setIfInBounds j true)
theorem wpAnyH_forkJ {A : World} {l : List Oper} (hl : l.toArray = ops) (hsel : Region.noSelect ops = true) (hQ : ∀ c a d v w, Q (.panic c) (a.put d v) w → Q (.panic c) a w) :
    ∀ (t : Fj) (listed : Array Bool) (a : Act) (w : World), t.fits l.length = true → forkJOk md ops t listed = true → Ex A w →
      wpForkJ P ops Q A (t.ops l) a w → wpAnyH P md ops Q (Ex A) t.len listed a w := by
  subst hl
  intro t
  induction t with
  | done => exact fun listed a w _ hB hA h => wpAnyH_done (by simpa [forkJOk] using hB) h _
  | look i r ih =>
    intro listed a w hF hB hA h
    simp only [Fj.fits, Bool.and_eq_true, decide_eq_true_eq] at hF
    simp only [forkJOk, Bool.and_eq_true] at hB
    obtain ⟨⟨hr, hf, hk⟩, hB'⟩ := hB
    have ho := nth_get l i hF.1
    have hl' : isLook (nth l i).op = true := by simpa [ho] using hk
    have hst : ∃ v, YieldsIf P l.toArray (Ex A) (nth l i) v a ∧ wpForkJ P l.toArray Q A (r.ops l) (a.put (nth l i).dst v) w := by
      unfold Fj.ops wpForkJ at h
      by_cases hw : Region.wanted (nth l i) (yielded l.toArray a.tmps) = true
      · rw [if_pos hw] at h
        obtain ⟨v, h1, h2⟩ := h
        refine ⟨v, .inl ⟨hw, fun w' hw' => ?_⟩, h2⟩
        have h3 := h1 w' hw'
        unfold Oper.quietAt at h3
        cases hrun : (execOp a.eval (nth l i)).run P w' with
        | ok x w1 =>
          obtain ⟨u, rfl⟩ := look_value hl' a.eval w' x w1 hrun
          rw [hrun] at h3
          simp only [Oper.quietUpon] at h3
          rw [h3.1, h3.2]
        | halt x w1 => rw [hrun] at h3; exact h3.elim
      · rw [if_neg hw] at h
        exact ⟨undef, .inr ⟨by simpa using hw, rfl⟩, h⟩
    obtain ⟨v, hy, hK⟩ := hst
    exact wpAnyH_take ho hsel hf hr (fun c a w => hQ c a _ _ w) hy hA (ih _ _ _ hF.2 hB' hA hK)
  | eff i r ih =>
    intro listed a w hF hB hA h
    simp only [Fj.fits, Bool.and_eq_true, decide_eq_true_eq] at hF
    simp only [forkJOk, Bool.and_eq_true, beq_iff_eq] at hB
    obtain ⟨hk, hB'⟩ := hB
    refine wpAnyH_all hk (by simp) fun j hj => ?_
    have hji : j = i := by simpa using hj
    subst hji
    exact wpOp_mono (fun a' w' h' => ⟨h'.1, ih _ _ _ hF.2 hB' h'.1 h'.2⟩) (effT_op (nth_get l j hF.1) hA h)
  | fork i x j y ihx ihy =>
    intro listed a w hF hB hA h
    simp only [Fj.fits, Bool.and_eq_true, decide_eq_true_eq, beq_iff_eq] at hF
    obtain ⟨⟨⟨⟨hi, hj⟩, hlen⟩, hfx⟩, hfy⟩ := hF
    simp only [forkJOk, Bool.and_eq_true, beq_iff_eq] at hB
    obtain ⟨⟨hk, hBx⟩, hBy⟩ := hB
    refine wpAnyH_all hk (by simp) fun q hq => ?_
    have hq2 : q = i ∨ q = j := by simpa using hq
    rcases hq2 with rfl | rfl
    · exact wpOp_mono (fun a' w' h' => ⟨h'.1, ihx _ _ _ hfx hBx h'.1 h'.2⟩) (effT_op (nth_get l q hi) hA h.1)
    · refine wpOp_mono (fun a' w' h' => ⟨h'.1, ?_⟩) (effT_op (nth_get l q hj) hA h.2)
      show wpAnyH P md l.toArray Q (Ex A) x.len _ a' w'
      rw [hlen]
      exact ihy _ _ _ hfy hBy h'.1 h'.2
  | three i x j y k z ihx ihy ihz =>
    intro listed a w hF hB hA h
    simp only [Fj.fits, Bool.and_eq_true, decide_eq_true_eq, beq_iff_eq] at hF
    obtain ⟨⟨⟨⟨⟨⟨⟨hi, hj⟩, hk'⟩, hlen⟩, hlen2⟩, hfx⟩, hfy⟩, hfz⟩ := hF
    simp only [forkJOk, Bool.and_eq_true, beq_iff_eq] at hB
    obtain ⟨⟨⟨hk, hBx⟩, hBy⟩, hBz⟩ := hB
    refine wpAnyH_all hk (by simp) fun q hq => ?_
    have hq2 : q = i ∨ q = j ∨ q = k := by simpa using hq
    rcases hq2 with rfl | rfl | rfl
    · exact wpOp_mono (fun a' w' h' => ⟨h'.1, ihx _ _ _ hfx hBx h'.1 h'.2⟩) (effT_op (nth_get l q hi) hA h.1)
    · refine wpOp_mono (fun a' w' h' => ⟨h'.1, ?_⟩) (effT_op (nth_get l q hj) hA h.2.1)
      show wpAnyH P md l.toArray Q (Ex A) x.len _ a' w'
      rw [hlen]
      exact ihy _ _ _ hfy hBy h'.1 h'.2
    · refine wpOp_mono (fun a' w' h' => ⟨h'.1, ?_⟩) (effT_op (nth_get l q hk') hA h.2.2)
      show wpAnyH P md l.toArray Q (Ex A) x.len _ a' w'
      rw [hlen2]
      exact ihz _ _ _ hfz hBz h'.1 h'.2
/-- **A tree of orders serves every order.** -/
theorem wp_region_forkJ {id : Nat} {a : Act} {w : World} {l : List Oper} (A : World) (t : Fj) (hA : Ex A w.drew) (hm : P.follows .mixedOrders = true)
    (hB : (Region.noSelect l.toArray && t.len == l.toArray.size && t.fits l.length && forkJOk .any l.toArray t (Array.replicate l.toArray.size false)) = true)
    (hQ : ∀ c a d v w, Q (.panic c) (a.put d v) w → Q (.panic c) a w)
    (h : wpForkJ P l.toArray Q A (t.ops l) a w.drew) : (Code.region id l.toArray true).wp P Q a w := by
  simp only [Bool.and_eq_true, beq_iff_eq] at hB
  obtain ⟨⟨⟨hsel, hlen⟩, hall⟩, hseq⟩ := hB
  refine wp_region_held (S := Ex A) hm ?_
  have H := wpAnyH_forkJ (md := .any) (P := P) (A := A) rfl hsel hQ t (Array.replicate l.toArray.size false) a w.drew hall hseq hA h
  rwa [hlen] at H
end
/-- What holds in the midst: the rest is walked once. -/
theorem wp_mid {P : Program} {c : Code} {K : Act → World → Prop} {Q : Exit → Act → World → Prop} {a : Act} {w : World} (R : Act → Act → World → Prop)
    (h1 : c.wp P (Exit.then (R a) Q) a w) (h2 : ∀ a' w', R a a' w' → Exit.then K Q .normal a' w') : c.wp P (Exit.then K Q) a w := by
  refine Code.wp_mono (fun x a' w' h => ?_) h1
  cases x <;> first | exact h2 _ _ h | exact h
end Go.Proofs.YtabjamkkhlbajaaDoor
