import Derived.Test.YtabjamkkhlbajaaDoorMOwn
import Derived.RangeFuncNested
import Derived.RangeFuncBound
import Derived.RangeFuncCalls
import Derived.RangeFuncLeaves
import Derived.RangeFuncBox
import Derived.Shelf.Abstract
import Derived.Shelf.RegionOpen
import Derived.WalkKit
import Derived.OwnWalkIn
import Derived.TacticsInMore
import Derived.LoopNIn
import Derived.LoopIn

/- Ranges over functions: what a loop's invariant may say of blocks. Over whatever program. -/
set_option linter.unusedSimpArgs false
set_option linter.unusedVariables false
set_option maxRecDepth 20000
namespace Go.Proofs.YtabjamkkhlbajaaDoor
open Go.RowKit
theorem grown_heap {W W' : World} {row : Option Nat} {B b : Nat} (hg : W.grownBy W' row) (hr : ∀ r, row = some r → B ≤ r) (hb : b < B) (hw : b < W.heap.size) : W'.heap[b]? = W.heap[b]? :=
  hg.block b hw fun e => by have := hr b e.symm; omega
theorem ownFrom_heap {β : Type} {B b : Nat} (o : β → Obj) (hb : b < B) : OwnFrom B (fun s W => W.heap[b]? = some (o s)) := fun s W W' row hs hg hr =>
  (grown_heap hg (fun r e => (hr r e).1) hb (Array.getElem?_eq_some_iff.1 hs).1).trans hs
/-- All but the blocks of a set lies as it lay. -/
structure Frm (F : Nat → Prop) (w w' : World) : Prop where
  os : w'.os = w.os
  tape : w'.tape = w.tape
  output : w'.output = w.output
  size : w.heap.size ≤ w'.heap.size
  same : ∀ b, b < w.heap.size → ¬ F b → w'.heap[b]? = w.heap[b]?
theorem Frm.refl (F : Nat → Prop) (w : World) : Frm F w w := ⟨rfl, rfl, rfl, Nat.le_refl _, fun _ _ _ => rfl⟩
theorem Frm.trans {F : Nat → Prop} {a b c : World} (h : Frm F a b) (k : Frm F b c) : Frm F a c :=
  ⟨k.os.trans h.os, k.tape.trans h.tape, k.output.trans h.output, Nat.le_trans h.size k.size, fun i hi hf => (k.same i (Nat.lt_of_lt_of_le hi h.size) hf).trans (h.same i hi hf)⟩
theorem Frm.ex {F : Nat → Prop} {w w' : World} (k : Ex w w') : Frm F w w' := by
  have hb := ex_below k
  exact ⟨hb.os, hb.tape, hb.output, hb.size, fun b h1 _ => hb.block b h1⟩
theorem Frm.mono {F G : Nat → Prop} {w w' : World} (h : Frm F w w') (k : ∀ b, F b → G b) : Frm G w w' := ⟨h.os, h.tape, h.output, h.size, fun b hb hf => h.same b hb fun e => hf (k b e)⟩
theorem Frm.set {F : Nat → Prop} {w w' : World} (h : Frm F w w') {b : Nat} (hb : F b) (o : Nat) (v : Value) : Frm F w (w'.setCell ⟨b, o, none⟩ v) :=
  h.trans ⟨rfl, rfl, rfl, by simp [World.setCell], fun k _ hk => setCell_heap v (fun e => hk (by rw [e]; exact hb))⟩
theorem setCells_os (b : Nat) : ∀ (vs : List Value) (o : Nat) (w : World), (w.setCells b o vs).os = w.os ∧ (w.setCells b o vs).tape = w.tape ∧ (w.setCells b o vs).output = w.output
  | [], _, _ => ⟨rfl, rfl, rfl⟩
  | v :: r, o, w => by unfold World.setCells; exact setCells_os b r _ _
theorem Frm.sets {F : Nat → Prop} {w w' : World} (h : Frm F w w') {b : Nat} (hb : F b) (o : Nat) (vs : List Value) : Frm F w (w'.setCells b o vs) := by
  obtain ⟨h1, h2, h3⟩ := setCells_os b vs o w'
  exact h.trans ⟨h1, h2, h3, by rw [setCells_size]; exact Nat.le_refl _, fun k _ hk => setCells_heap _ _ _ _ _ (fun e => hk (by rw [e]; exact hb))⟩
theorem Frm.alloc {F : Nat → Prop} {w w' : World} (h : Frm F w w') (o : Obj) : Frm F w (w'.alloc o) := h.trans (Frm.ex (ex_alloc (ex_refl _) _))
theorem Frm.below {F : Nat → Prop} {w w' : World} (h : Frm F w w') {Z : Nat} (hZ : Z ≤ w.heap.size) (ho : ∀ b, F b → Z ≤ b) : Below Z w w' :=
  ⟨h.os, h.tape, h.output, h.size, fun b hb => h.same b (by omega) fun e => by have := ho b e; omega⟩
theorem Frm.grown {F : Nat → Prop} {w W W' : World} {row : Option Nat} {B : Nat} (h : Frm F w W) (hg : W.grownBy W' row) (hr : ∀ r, row = some r → B ≤ r) (hB : w.heap.size ≤ B) : Frm F w W' :=
  ⟨hg.os.trans h.os, hg.tape.trans h.tape, hg.output.trans h.output, Nat.le_trans h.size hg.size, fun b hb hf => (grown_heap hg hr (by omega) (Nat.lt_of_lt_of_le hb h.size)).trans (h.same b hb hf)⟩
theorem ownFrom_frm {β : Type} {B : Nat} {F : Nat → Prop} {w : World} (hB : w.heap.size ≤ B) : OwnFrom B (fun (_ : β) W => Frm F w W) := fun s W W' row hs hg hr => hs.grown hg (fun r e => (hr r e).1) hB
theorem Frm.putObj {F : Nat → Prop} {w W : World} (h : Frm F w W) {D : Nat} (hD : w.heap.size ≤ D) (o : Obj) : Frm F w (W.putObj D o) := h.grown (grownBy_putObj' W D o) (fun r e => by cases e; exact Nat.le_refl _) hD
theorem ownFrom_cells {β : Type} {B b : Nat} (cs : β → Array Value) (t : TypeId) (fr : Nat × Nat) : OwnFrom B (fun s W => W.heap[b]? = some (.cells (cs s) t fr)) := fun s W W' row hs hg hr =>
  (hg.block b (Array.getElem?_eq_some_iff.1 hs).1 fun e => by
    obtain ⟨_, o, h1, h2⟩ := hr b e.symm
    rw [hs] at h1
    obtain rfl := Option.some.inj h1
    cases h2).trans hs
theorem uptoL_split {α : Type} {f : Nat → α} {k : Nat} {ini : List α} {y : α} (h : (List.range k).map f = ini ++ [y]) : ∃ j, k = j + 1 ∧ ini = (List.range j).map f ∧ y = f j := by
  cases k with
  | zero => simp at h
  | succ j =>
    rw [List.range_succ, List.map_append] at h
    obtain ⟨h1, h2⟩ := List.append_inj' h rfl
    exact ⟨j, rfl, h1.symm, by simpa using h2.symm⟩
theorem ownFrom_pure' {β : Type} (B : Nat) (p : β → Prop) : OwnFrom B (fun s _ => p s) := fun _ _ _ _ hs _ _ => hs
/-- A result in memory, and one beside it. -/
theorem ret_rowV {P : Program} {fn : Func} {p q : Tmp} {ty : TypeId} {d : TypeDesc} {n b : Nat} {cs : Array Value} {v : Value} {R : Ending → World → Prop} {a : Act} {w : World} (h : fn.results = #[.cell p ty, .tmp q])
    (hu : P.underlying ty = some d) (hd : d.isRow = true) (hi : (P.info? ty).map (·.size) = some n) (hp : a.tmps.getD p undef = .pointer (some ⟨b, 0, none⟩)) (hc : cellsN w b 0 n = some cs) (hq : a.tmps.getD q undef = v) (hdf : a.defers = [])
    (hR : R (.returned (.tuple #[.agg cs, v])) w) : bodyPost P fn R .ret a w := by
  have h1 := (cellsN_some.1 hc).1
  have hrun := run_loadVar_mid (P := P) w b 0 ty cs.toList d (cellsN_range hc) hu hd (by rw [hi]; simp [h1])
  have hp' : a.tmps[p]?.getD undef = .pointer (some ⟨b, 0, none⟩) := by simpa using hp
  have hq' : a.tmps[q]?.getD undef = v := by simpa using hq
  exact bodyPost_ret (by simp [results, h, hp', hq', asAddr, hrun]) hdf hR
/-- What holds in the midst, nothing else happening ahead of it. -/
theorem wp_midF {P : Program} {c : Code} {K : Act → World → Prop} {Q : Exit → Act → World → Prop} {a : Act} {w : World} (R : Act → World → Prop)
    (h1 : c.wp P (Exit.then R fun _ _ _ => False) a w) (h2 : ∀ a' w', R a' w' → Exit.then K Q .normal a' w') : c.wp P (Exit.then K Q) a w := by
  refine Code.wp_mono (fun x a' w' h => ?_) h1
  cases x <;> first | exact h2 _ _ h | exact h.elim
section
variable {P : Program}
@[go_sem ↓ high] theorem run_loadR_pre (ro : Option Nat) (ρ : Operand → Value) (d : Option Tmp) (t : TypeId) (x : Operand) (ty : TypeId) (pos : String) (aft : Array Edge) (g : Option (Nat × Bool)) (w : World) :
    Sem.run P (Oper.semAt ro ρ ⟨d, .load t x, ty, pos, aft, g⟩) w = loadRun P t (ρ x) w := by
  cases ro <;> exact run_load_pre ρ d t x ty pos aft g w
@[go_sem ↓ high] theorem run_storeR_pre (ro : Option Nat) (ρ : Operand → Value) (d : Option Tmp) (t : TypeId) (x y : Operand) (ty : TypeId) (pos : String) (aft : Array Edge) (g : Option (Nat × Bool)) (w : World) :
    Sem.run P (Oper.semAt ro ρ ⟨d, .store t x y, ty, pos, aft, g⟩) w = storeRun P t (ρ x) (ρ y) w := by
  cases ro <;> exact run_store_pre ρ d t x y ty pos aft g w
@[go_sem ↓ high] theorem run_copyR_pre (ro : Option Nat) (ρ : Operand → Value) (d : Option Tmp) (x y : Operand) (at_ : Array TypeId) (ty : TypeId) (pos : String) (aft : Array Edge) (g : Option (Nat × Bool)) (w : World) :
    Sem.run P (Oper.semAt ro ρ ⟨d, .call { callee := .builtin .copy, args := #[x, y], argTypes := at_ }, ty, pos, aft, g⟩) w = copyRun P at_ ty (ρ x) (ρ y) w := by
  cases ro <;> exact run_copy_pre ρ d x y at_ ty pos aft g w
end
end Go.Proofs.YtabjamkkhlbajaaDoor
