import Derived.Test.YtabjamkkhlbajaaDoorMWords
import Derived.Deep.MidRow
import Derived.OwnWalk
import Derived.Lib.BufferRead
import Derived.Lib.ConvBytes
import Derived.Laws.IdiomStrings

/- Rows of cells: whole arrays that are read, laid and held against one another; functional rows of words. Over whatever program. -/
set_option linter.unusedSimpArgs false
set_option linter.unusedVariables false
set_option maxRecDepth 20000
namespace Go.Proofs.YtabjamkkhlbajaaDoor
open Go.RowKit

/-! ### Functional rows -/
def upd {α : Type} (f : Nat → α) (i : Nat) (x : α) : Nat → α := fun j => if j = i then x else f j
def rowU (n : Nat) (f : Nat → UInt32) : Array Value := ((List.range n).map fun i => U (f i)).toArray
def rowB (n : Nat) (f : Nat → UInt8) : Array Value := ((List.range n).map fun i => B (f i)).toArray
def rowI (n : Nat) (f : Nat → Int) : Array Value := ((List.range n).map fun i => I (f i)).toArray
@[go_sem, simp] theorem rowU_size (n : Nat) (f : Nat → UInt32) : (rowU n f).size = n := by simp [rowU]
@[go_sem, simp] theorem rowB_size (n : Nat) (f : Nat → UInt8) : (rowB n f).size = n := by simp [rowB]
@[go_sem, simp] theorem rowI_size (n : Nat) (f : Nat → Int) : (rowI n f).size = n := by simp [rowI]
@[go_sem] theorem rowU_get (n : Nat) (f : Nat → UInt32) (i : Nat) : (rowU n f)[i]? = if i < n then some (U (f i)) else none := by
  simp only [rowU, List.getElem?_toArray, List.getElem?_map, List.getElem?_range]
  by_cases h : i < n <;> simp [h]
@[go_sem] theorem rowB_get (n : Nat) (f : Nat → UInt8) (i : Nat) : (rowB n f)[i]? = if i < n then some (B (f i)) else none := by
  simp only [rowB, List.getElem?_toArray, List.getElem?_map, List.getElem?_range]
  by_cases h : i < n <;> simp [h]
@[go_sem] theorem rowI_get (n : Nat) (f : Nat → Int) (i : Nat) : (rowI n f)[i]? = if i < n then some (I (f i)) else none := by
  simp only [rowI, List.getElem?_toArray, List.getElem?_map, List.getElem?_range]
  by_cases h : i < n <;> simp [h]
@[go_sem, simp] theorem rowU_at (n : Nat) (f : Nat → UInt32) (i : Nat) (h : i < (rowU n f).size) : (rowU n f)[i] = U (f i) := by
  have := rowU_get n f i
  rw [Array.getElem?_eq_getElem h, if_pos (by simpa using h)] at this
  exact Option.some.inj this
@[go_sem, simp] theorem rowB_at (n : Nat) (f : Nat → UInt8) (i : Nat) (h : i < (rowB n f).size) : (rowB n f)[i] = B (f i) := by
  have := rowB_get n f i
  rw [Array.getElem?_eq_getElem h, if_pos (by simpa using h)] at this
  exact Option.some.inj this
@[go_sem, simp] theorem rowI_at (n : Nat) (f : Nat → Int) (i : Nat) (h : i < (rowI n f).size) : (rowI n f)[i] = I (f i) := by
  have := rowI_get n f i
  rw [Array.getElem?_eq_getElem h, if_pos (by simpa using h)] at this
  exact Option.some.inj this
theorem arr_ext {xs ys : Array Value} (h : ∀ i : Nat, xs[i]? = ys[i]?) : xs = ys := Array.ext_getElem? h
@[go_sem] theorem rowU_set (n : Nat) (f : Nat → UInt32) (i : Nat) (x : UInt32) : (rowU n f).setIfInBounds i (.int .u32 (un x)) = rowU n (upd f i x) := by
  apply arr_ext; intro j
  rw [Array.getElem?_setIfInBounds, rowU_get, rowU_get]
  simp only [rowU_size, upd]
  by_cases hij : i = j
  · subst hij; simp
  · simp [hij, Ne.symm hij]
@[go_sem] theorem rowB_set (n : Nat) (f : Nat → UInt8) (i : Nat) (x : UInt8) : (rowB n f).setIfInBounds i (.int .u8 (bn x)) = rowB n (upd f i x) := by
  apply arr_ext; intro j
  rw [Array.getElem?_setIfInBounds, rowB_get, rowB_get]
  simp only [rowB_size, upd]
  by_cases hij : i = j
  · subst hij; simp
  · simp [hij, Ne.symm hij]
theorem rowU_congr {n : Nat} {f g : Nat → UInt32} (h : ∀ i, i < n → f i = g i) : rowU n f = rowU n g := by
  apply arr_ext; intro j; rw [rowU_get, rowU_get]; by_cases hj : j < n <;> simp [hj, h]
theorem rowB_congr {n : Nat} {f g : Nat → UInt8} (h : ∀ i, i < n → f i = g i) : rowB n f = rowB n g := by
  apply arr_ext; intro j; rw [rowB_get, rowB_get]; by_cases hj : j < n <;> simp [hj, h]
def shiftF {α : Type} (f : Nat → α) (a : Nat) : Nat → α := fun j => f (a + j)
@[go_sem, simp] theorem shiftF_zero {α : Type} (f : Nat → α) : shiftF f 0 = f := by funext j; simp [shiftF]
@[go_sem] theorem rowU_extract (N : Nat) (f : Nat → UInt32) (a b : Nat) : (rowU N f).extract a b = rowU (min b N - a) (shiftF f a) := by
  apply arr_ext; intro j
  rw [Array.getElem?_extract, rowU_get, rowU_get, rowU_size]
  by_cases hj : j < min b N - a
  · simp [hj, show a + j < N by omega, shiftF]
  · simp [hj]
@[go_sem] theorem rowB_extract (N : Nat) (f : Nat → UInt8) (a b : Nat) : (rowB N f).extract a b = rowB (min b N - a) (shiftF f a) := by
  apply arr_ext; intro j
  rw [Array.getElem?_extract, rowB_get, rowB_get, rowB_size]
  by_cases hj : j < min b N - a
  · simp [hj, show a + j < N by omega, shiftF]
  · simp [hj]
@[go_sem] theorem rowI_extract (N : Nat) (f : Nat → Int) (a b : Nat) : (rowI N f).extract a b = rowI (min b N - a) (shiftF f a) := by
  apply arr_ext; intro j
  rw [Array.getElem?_extract, rowI_get, rowI_get, rowI_size]
  by_cases hj : j < min b N - a
  · simp [hj, show a + j < N by omega, shiftF]
  · simp [hj]
@[go_sem] theorem alloc_zerosU4 (w : World) (t : TypeId) : w.alloc (.cells #[.int .u32 0, .int .u32 0, .int .u32 0, .int .u32 0] t) = w.alloc (.cells (rowU 4 (fun _ => 0)) t) := rfl
@[go_sem] theorem alloc_zerosU8 (w : World) (t : TypeId) : w.alloc (.cells #[.int .u32 0, .int .u32 0, .int .u32 0, .int .u32 0, .int .u32 0, .int .u32 0, .int .u32 0, .int .u32 0] t) = w.alloc (.cells (rowU 8 (fun _ => 0)) t) := rfl
@[go_sem] theorem alloc_zerosU16 (w : World) (t : TypeId) : w.alloc (.cells #[.int .u32 0, .int .u32 0, .int .u32 0, .int .u32 0, .int .u32 0, .int .u32 0, .int .u32 0, .int .u32 0, .int .u32 0, .int .u32 0, .int .u32 0, .int .u32 0, .int .u32 0, .int .u32 0, .int .u32 0, .int .u32 0] t) = w.alloc (.cells (rowU 16 (fun _ => 0)) t) := rfl
@[go_sem] theorem alloc_zerosB32 (w : World) (t : TypeId) : w.alloc (.cells #[.int .u8 0, .int .u8 0, .int .u8 0, .int .u8 0, .int .u8 0, .int .u8 0, .int .u8 0, .int .u8 0, .int .u8 0, .int .u8 0, .int .u8 0, .int .u8 0, .int .u8 0, .int .u8 0, .int .u8 0, .int .u8 0, .int .u8 0, .int .u8 0, .int .u8 0, .int .u8 0, .int .u8 0, .int .u8 0, .int .u8 0, .int .u8 0, .int .u8 0, .int .u8 0, .int .u8 0, .int .u8 0, .int .u8 0, .int .u8 0, .int .u8 0, .int .u8 0] t) = w.alloc (.cells (rowB 32 (fun _ => 0)) t) := rfl
@[go_sem] theorem alloc_zerosB64 (w : World) (t : TypeId) : w.alloc (.cells #[.int .u8 0, .int .u8 0, .int .u8 0, .int .u8 0, .int .u8 0, .int .u8 0, .int .u8 0, .int .u8 0, .int .u8 0, .int .u8 0, .int .u8 0, .int .u8 0, .int .u8 0, .int .u8 0, .int .u8 0, .int .u8 0, .int .u8 0, .int .u8 0, .int .u8 0, .int .u8 0, .int .u8 0, .int .u8 0, .int .u8 0, .int .u8 0, .int .u8 0, .int .u8 0, .int .u8 0, .int .u8 0, .int .u8 0, .int .u8 0, .int .u8 0, .int .u8 0, .int .u8 0, .int .u8 0, .int .u8 0, .int .u8 0, .int .u8 0, .int .u8 0, .int .u8 0, .int .u8 0, .int .u8 0, .int .u8 0, .int .u8 0, .int .u8 0, .int .u8 0, .int .u8 0, .int .u8 0, .int .u8 0, .int .u8 0, .int .u8 0, .int .u8 0, .int .u8 0, .int .u8 0, .int .u8 0, .int .u8 0, .int .u8 0, .int .u8 0, .int .u8 0, .int .u8 0, .int .u8 0, .int .u8 0, .int .u8 0, .int .u8 0, .int .u8 0] t) = w.alloc (.cells (rowB 64 (fun _ => 0)) t) := rfl
theorem rowU_one (n : Nat) (f : Nat → UInt32) : (rowU n f).all (·.oneCell') = true := by
  rw [Array.all_eq_true_iff_forall_mem]; intro x hx
  simp only [rowU, List.mem_toArray, List.mem_map] at hx
  obtain ⟨i, _, rfl⟩ := hx; rfl
theorem rowB_one (n : Nat) (f : Nat → UInt8) : (rowB n f).all (·.oneCell') = true := by
  rw [Array.all_eq_true_iff_forall_mem]; intro x hx
  simp only [rowB, List.mem_toArray, List.mem_map] at hx
  obtain ⟨i, _, rfl⟩ := hx; rfl
theorem rowI_one (n : Nat) (f : Nat → Int) : (rowI n f).all (·.oneCell') = true := by
  rw [Array.all_eq_true_iff_forall_mem]; intro x hx
  simp only [rowI, List.mem_toArray, List.mem_map] at hx
  obtain ⟨i, _, rfl⟩ := hx; rfl

/-! ### A cell behind a new block, without a premise -/
def cellFar (w : World) (a : Addr) : Option Value := w.cell? a
def frozenFar1 (w : World) (a : Addr) : Bool := w.frozen? a
def setFar (w : World) (a : Addr) (v : Value) : World := w.setCell a v
@[go_sem high] theorem cell_allocI (w : World) (c : Array Value) (t : TypeId) (b i : Nat) : (w.alloc (.cells c t)).cell? ⟨b, i, none⟩ = if b < w.heap.size then w.cell? ⟨b, i, none⟩ else if b = w.heap.size then c[i]? else cellFar (w.alloc (.cells c t)) ⟨b, i, none⟩ := by
  split
  · exact World.cell?_alloc_past _ b i ‹_›
  · split
    · exact World.cell?_alloc_at c t b i ‹_›
    · rfl
@[go_sem high] theorem frozen_allocI (w : World) (c : Array Value) (t : TypeId) (b i : Nat) : (w.alloc (.cells c t)).frozen? ⟨b, i, none⟩ = if b < w.heap.size then w.frozen? ⟨b, i, none⟩ else if b = w.heap.size then false else frozenFar1 (w.alloc (.cells c t)) ⟨b, i, none⟩ := by
  split
  · exact World.frozen?_alloc_past _ b i ‹_›
  · split
    · exact World.frozen?_alloc_at c t b i ‹_›
    · rfl
@[go_sem high] theorem set_allocI (w : World) (c : Array Value) (t : TypeId) (b i : Nat) (v : Value) : (w.alloc (.cells c t)).setCell ⟨b, i, none⟩ v = if b < w.heap.size then (w.setCell ⟨b, i, none⟩ v).alloc (.cells c t) else if b = w.heap.size then w.alloc (.cells (c.setIfInBounds i v) t) else setFar (w.alloc (.cells c t)) ⟨b, i, none⟩ v := by
  split
  · exact World.setCell_alloc_past _ b i v ‹_›
  · split
    · exact World.setCell_alloc_at c t b i v ‹_›
    · rfl

/-! ### A row of cells, whole -/
/-- The cells from a place on, if they are all there. -/
def cellsN (w : World) (b o n : Nat) : Option (Array Value) :=
  if (List.range n).all (fun j => (w.cell? ⟨b, o + j, none⟩).isSome) then some ((List.range n).map fun j => (w.cell? ⟨b, o + j, none⟩).getD undef).toArray else none
theorem cellsN_some {w : World} {b o n : Nat} {cs : Array Value} : cellsN w b o n = some cs ↔ cs.size = n ∧ ∀ j, j < n → w.cell? ⟨b, o + j, none⟩ = cs[j]? := by
  unfold cellsN
  constructor
  · intro h
    split at h
    · rename_i hall
      simp only [Option.some.injEq] at h
      subst h
      refine ⟨by simp, fun j hj => ?_⟩
      have := List.all_eq_true.1 hall j (List.mem_range.2 hj)
      simp only [List.getElem?_toArray, List.getElem?_map, List.getElem?_range hj, Option.map_some]
      obtain ⟨v, hv⟩ := Option.isSome_iff_exists.1 this
      rw [hv]; rfl
    · cases h
  · rintro ⟨hs, h⟩
    have hall : (List.range n).all (fun j => (w.cell? ⟨b, o + j, none⟩).isSome) = true := List.all_eq_true.2 fun j hj => by
      have hj := List.mem_range.1 hj
      rw [h j hj, Array.getElem?_eq_getElem (by omega)]; rfl
    rw [if_pos hall]
    congr 1
    apply arr_ext; intro j
    by_cases hj : j < n
    · simp only [List.getElem?_toArray, List.getElem?_map, List.getElem?_range hj, Option.map_some, h j hj]
      rw [Array.getElem?_eq_getElem (by omega)]; rfl
    · rw [Array.getElem?_eq_none (by simp; omega), Array.getElem?_eq_none (by omega)]
theorem cellsN_congr {w w' : World} {b o n : Nat} (h : ∀ j, j < n → w'.cell? ⟨b, o + j, none⟩ = w.cell? ⟨b, o + j, none⟩) : cellsN w' b o n = cellsN w b o n := by
  cases hc : cellsN w b o n with
  | some cs => obtain ⟨h1, h2⟩ := cellsN_some.1 hc; exact cellsN_some.2 ⟨h1, fun j hj => (h j hj).trans (h2 j hj)⟩
  | none =>
    cases hc' : cellsN w' b o n with
    | none => rfl
    | some cs => obtain ⟨h1, h2⟩ := cellsN_some.1 hc'; rw [cellsN_some.2 ⟨h1, fun j hj => (h j hj).symm.trans (h2 j hj)⟩] at hc; cases hc
def cellsFar (w : World) (b o n : Nat) : Option (Array Value) := cellsN w b o n
/-- The same of a block behind. -/
def blkCells (b : Option Obj) (o n : Nat) : Option (Array Value) := match b with | some (.cells c _ _) => if o + n ≤ c.size then some (c.extract o (o + n)) else none | _ => if n = 0 then some #[] else none
@[go_sem] theorem blkCells_cells (c : Array Value) (t : TypeId) (fr : Nat × Nat) (o n : Nat) : blkCells (some (.cells c t fr)) o n = if o + n ≤ c.size then some (c.extract o (o + n)) else none := rfl
theorem cellsN_wx_raw (w : World) (X : More) (b o n : Nat) : cellsN (wx w X) b o n = if b < w.heap.size then cellsN w b o n else if n = 0 then some #[] else blkCells (X.blocks[b - w.heap.size]?) o n := by
  split
  · exact cellsN_congr fun j _ => wx_cell _ _ _ ‹_›
  · rename_i hb
    split
    · rename_i hn; subst hn; exact cellsN_some.2 ⟨rfl, fun j hj => by omega⟩
    · rename_i hn
      have hc : ∀ j, (wx w X).cell? ⟨b, o + j, none⟩ = blkCell (X.blocks[b - w.heap.size]?) (o + j) none := fun j => by rw [wx_cellI_raw]; simp [hb]
      cases hq : X.blocks[b - w.heap.size]? with
      | none =>
        cases hr : cellsN (wx w X) b o n with
        | none => simp [blkCells, hn]
        | some cs =>
          obtain ⟨h1, h2⟩ := cellsN_some.1 hr
          have := h2 0 (by omega)
          rw [hc, hq, Array.getElem?_eq_getElem (by omega)] at this; cases this
      | some ob =>
        cases ob with
        | cells c t fr =>
          rw [blkCells_cells]
          split
          · rename_i hle
            refine cellsN_some.2 ⟨by simp; omega, fun j hj => ?_⟩
            rw [hc, hq, Array.getElem?_extract, blkCell_cells]
            simp [show j < min (o + n) c.size - o by omega]
          · rename_i hle
            cases hr : cellsN (wx w X) b o n with
            | none => rfl
            | some cs =>
              obtain ⟨h1, h2⟩ := cellsN_some.1 hr
              have := h2 (n - 1) (by omega)
              rw [hc, hq, blkCell_cells, Array.getElem?_eq_none (by omega), Array.getElem?_eq_getElem (by omega)] at this; cases this
        | _ =>
          cases hr : cellsN (wx w X) b o n with
          | none => simp [blkCells, hn]
          | some cs =>
            obtain ⟨h1, h2⟩ := cellsN_some.1 hr
            have := h2 0 (by omega)
            rw [hc, hq, Array.getElem?_eq_getElem (by omega)] at this; cases this
@[go_sem] theorem cellsN_wx (w : World) (X : More) (b o n : Nat) : cellsN (wx w X) b o n = if b < w.heap.size then cellsN w b o n else if n = 0 then some #[] else blkCells (X.at (b - w.heap.size)) o n := cellsN_wx_raw w X b o n
@[go_sem] theorem cellsN_drew (w : World) (b o n : Nat) : cellsN w.drew b o n = cellsN w b o n := rfl
@[go_sem] theorem cellsN_drewN (w : World) (b o n k : Nat) : cellsN (w.drewN k) b o n = cellsN w b o n := rfl
@[go_sem] theorem cellsN_alloc (w : World) (c : Array Value) (t : TypeId) (b o n : Nat) :
    cellsN (w.alloc (.cells c t)) b o n = if b < w.heap.size then cellsN w b o n else if b = w.heap.size then (if o + n ≤ c.size then some (c.extract o (o + n)) else cellsFar (w.alloc (.cells c t)) b o n) else cellsFar (w.alloc (.cells c t)) b o n := by
  split
  · exact cellsN_congr fun j _ => World.cell?_alloc_past _ b (o + j) ‹_›
  · split
    · rename_i hb
      split
      · rename_i h
        refine cellsN_some.2 ⟨by simp; omega, fun j hj => ?_⟩
        rw [World.cell?_alloc_at c t b (o + j) hb, Array.getElem?_extract]
        simp [show j < min (o + n) c.size - o by omega]
      · rfl
    · rfl
@[go_sem] theorem extract_all (c : Array Value) (n : Nat) (h : c.size = n) : c.extract 0 n = c := by subst h; simp
theorem cellsN_range {w : World} {b o n : Nat} {cs : Array Value} (h : cellsN w b o n = some cs) : w.rangeAt b o cs.toList := fun j v hv => by
  obtain ⟨h1, h2⟩ := cellsN_some.1 h
  have hj : j < cs.size := by
    rcases Nat.lt_or_ge j cs.size with h | h
    · exact h
    · rw [Array.getElem?_toList, Array.getElem?_eq_none h] at hv; cases hv
  rw [h2 j (by omega), ← Array.getElem?_toList, hv]

/-! ### A load, a store: what they run to, behind a name of their own, so that a row is read and laid whole -/
section
variable {P : Program}
def loadRun (P : Program) (t : TypeId) (v : Value) (w : World) : Result Next := ((Instr.loadAt t v).run P w).andThen fun x w' => .ok (.value x) w'
def loadRaw (P : Program) (t : TypeId) (v : Value) (w : World) : Result Next := ((Instr.loadAt t v).run P w).andThen fun x w' => .ok (.value x) w'
@[go_sem ↓ high] theorem run_load_pre (ρ : Operand → Value) (d : Option Tmp) (t : TypeId) (x : Operand) (ty : TypeId) (pos : String) (aft : Array Edge) (g : Option (Nat × Bool)) (w : World) :
    Sem.run P (execOp ρ ⟨d, .load t x, ty, pos, aft, g⟩) w = loadRun P t (ρ x) w := by
  simp only [execOp, Sem.run_bind]; rfl
@[go_sem low] theorem loadRun_other (t : TypeId) (v : Value) (w : World) : loadRun P t v w = ((Instr.loadAt t v).run P w).andThen fun x w' => .ok (.value x) w' := rfl
theorem loadRun_row {t : TypeId} {d : TypeDesc} {n : Nat} (hu : P.underlying t = some d) (hd : d.isRow = true) (hi : (P.info? t).map (·.size) = some n) (b o : Nat) (w : World) :
    loadRun P t (.pointer (some ⟨b, o, none⟩)) w = match cellsN w b o n with | some cs => .ok (.value (.agg cs)) w | none => loadRaw P t (.pointer (some ⟨b, o, none⟩)) w := by
  cases hc : cellsN w b o n with
  | none => rfl
  | some cs =>
    have h1 := (cellsN_some.1 hc).1
    have := run_loadAt_mid (P := P) w b o t cs.toList d (cellsN_range hc) hu hd (by rw [hi]; simp [h1])
    unfold loadRun
    rw [this]; rfl

def storeRun (P : Program) (t : TypeId) (v x : Value) (w : World) : Result Next := ((Instr.storeAt t v x).run P w).andThen fun _ w' => .ok .skip w'
def storeRaw (P : Program) (t : TypeId) (v x : Value) (w : World) : Result Next := ((Instr.storeAt t v x).run P w).andThen fun _ w' => .ok .skip w'
@[go_sem ↓ high] theorem run_store_pre (ρ : Operand → Value) (d : Option Tmp) (t : TypeId) (x y : Operand) (ty : TypeId) (pos : String) (aft : Array Edge) (g : Option (Nat × Bool)) (w : World) :
    Sem.run P (execOp ρ ⟨d, .store t x y, ty, pos, aft, g⟩) w = storeRun P t (ρ x) (ρ y) w := by
  simp only [execOp, Sem.run_bind]; rfl
@[go_sem low] theorem storeRun_other (t : TypeId) (v x : Value) (w : World) : storeRun P t v x w = ((Instr.storeAt t v x).run P w).andThen fun _ w' => .ok .skip w' := rfl
end

/-! ### A whole row is laid at once -/
def frozenN (w : World) (b o n : Nat) : Bool := (List.range n).any fun j => w.frozen? ⟨b, o + j, none⟩
theorem frozenN_false {w : World} {b o n : Nat} : frozenN w b o n = false ↔ ∀ j, j < n → w.frozen? ⟨b, o + j, none⟩ = false := by
  unfold frozenN
  simp [List.any_eq_false]
theorem frozenN_congr {w w' : World} {b o n : Nat} (h : ∀ j, j < n → w'.frozen? ⟨b, o + j, none⟩ = w.frozen? ⟨b, o + j, none⟩) : frozenN w' b o n = frozenN w b o n := by
  unfold frozenN
  rw [Bool.eq_iff_iff, List.any_eq_true, List.any_eq_true]
  constructor
  · rintro ⟨j, hj, h1⟩; exact ⟨j, hj, by rw [← h j (List.mem_range.1 hj)]; exact h1⟩
  · rintro ⟨j, hj, h1⟩; exact ⟨j, hj, by rw [h j (List.mem_range.1 hj)]; exact h1⟩
def frozenFar (w : World) (b o n : Nat) : Bool := frozenN w b o n
def blkFrozenN (b : Option Obj) (o n : Nat) : Bool := (List.range n).any fun j => blkFrozen b (o + j)
@[go_sem] theorem blkFrozenN_cells (c : Array Value) (t : TypeId) (o n : Nat) : blkFrozenN (some (.cells c t (0, 0))) o n = false := by
  unfold blkFrozenN; simp [blkFrozen_cells]
theorem frozenN_wx_raw (w : World) (X : More) (b o n : Nat) : frozenN (wx w X) b o n = if b < w.heap.size then frozenN w b o n else blkFrozenN (X.blocks[b - w.heap.size]?) o n := by
  split
  · exact frozenN_congr fun j _ => wx_frozen _ _ _ ‹_›
  · rename_i hb
    unfold frozenN blkFrozenN
    congr 1
    funext j
    rw [wx_frozenI_raw]; simp [hb]
@[go_sem] theorem frozenN_wx (w : World) (X : More) (b o n : Nat) : frozenN (wx w X) b o n = if b < w.heap.size then frozenN w b o n else blkFrozenN (X.at (b - w.heap.size)) o n := frozenN_wx_raw w X b o n
@[go_sem] theorem frozenN_drew (w : World) (b o n : Nat) : frozenN w.drew b o n = frozenN w b o n := rfl
@[go_sem] theorem frozenN_drewN (w : World) (b o n k : Nat) : frozenN (w.drewN k) b o n = frozenN w b o n := rfl
@[go_sem] theorem frozenN_alloc (w : World) (c : Array Value) (t : TypeId) (b o n : Nat) :
    frozenN (w.alloc (.cells c t)) b o n = if b < w.heap.size then frozenN w b o n else if b = w.heap.size then false else frozenFar (w.alloc (.cells c t)) b o n := by
  split
  · exact frozenN_congr fun j _ => World.frozen?_alloc_past _ b (o + j) ‹_›
  · split
    · rename_i hb
      exact frozenN_false.2 fun j hj => World.frozen?_alloc_at c t b (o + j) hb
    · rfl

/-- Each is one cell. -/
def oneCells (vs : Array Value) : Bool := vs.all (·.oneCell')
@[go_sem] theorem oneCells_lit (l : List Value) : oneCells l.toArray = l.all (·.oneCell') := by simp [oneCells]
@[go_sem] theorem one_int (k : IntKind) (n : Int) : (Value.int k n).oneCell' = true := rfl
@[go_sem] theorem one_bool (b : Bool) : (Value.bool b).oneCell' = true := rfl
@[go_sem] theorem one_string (s : ByteArray) : (Value.string s).oneCell' = true := rfl
@[go_sem] theorem one_pointer (p : Option Addr) : (Value.pointer p).oneCell' = true := rfl
@[go_sem] theorem one_slice (p : Option Addr) (n c : Nat) : (Value.slice p n c).oneCell' = true := rfl
@[go_sem] theorem one_func (f : Fn) (x y : Array Value) : (Value.func f x y).oneCell' = true := rfl
@[go_sem] theorem one_nilFunc : Value.nilFunc.oneCell' = true := rfl
@[go_sem] theorem one_iface (t : TypeId) (v : Value) : (Value.iface t v).oneCell' = true := rfl
@[go_sem] theorem one_nilIface : Value.nilIface.oneCell' = true := rfl
theorem storeRun_row {P : Program} {t : TypeId} {n : Nat} (hi : (P.info? t).map (·.size) = some n) (b o : Nat) (vs : Array Value) (w : World) :
    storeRun P t (.pointer (some ⟨b, o, none⟩)) (.agg vs) w = if (vs.size == n && (cellsN w b o n).isSome && !frozenN w b o n && oneCells vs) = true then .ok .skip (w.setCells b o vs.toList) else storeRaw P t (.pointer (some ⟨b, o, none⟩)) (.agg vs) w := by
  split
  · rename_i h
    simp only [Bool.and_eq_true, Bool.not_eq_true', beq_iff_eq] at h
    obtain ⟨⟨⟨h0, h1⟩, h2⟩, h3⟩ := h
    obtain ⟨cs, hcs⟩ := Option.isSome_iff_exists.1 h1
    obtain ⟨h4, h5⟩ := cellsN_some.1 hcs
    have := run_storeAt_mid (P := P) w b o t vs (fun j hj => ⟨by rw [h5 j (by omega), Array.getElem?_eq_getElem (by omega)]; rfl, frozenN_false.1 h2 j (by omega)⟩) (by rw [hi, h0]) h3
    unfold storeRun
    rw [this]; rfl
  · rfl
def setsFar (w : World) (b o : Nat) (vs : List Value) : World := w.setCells b o vs
theorem setCells_size (b : Nat) : ∀ (vs : List Value) (o : Nat) (w : World), (w.setCells b o vs).heap.size = w.heap.size
  | [], _, _ => rfl
  | v :: r, o, w => by unfold World.setCells; rw [setCells_size b r]; simp [World.setCell]
theorem setCells_past (b : Nat) (ob : Obj) : ∀ (vs : List Value) (o : Nat) (w : World), b < w.heap.size → (w.alloc ob).setCells b o vs = (w.setCells b o vs).alloc ob
  | [], _, _, _ => rfl
  | v :: r, o, w, h => by
    unfold World.setCells
    rw [World.setCell_alloc_past ob b o v h, setCells_past b ob r (o + 1) _ (by simpa [World.setCell] using h)]
theorem setCells_new (w : World) (t : TypeId) : ∀ (vs : List Value) (o : Nat) (c : Array Value), (w.alloc (.cells c t)).setCells w.heap.size o vs = w.alloc (.cells (vs.foldl (fun x v => (x.1.setIfInBounds x.2 v, x.2 + 1)) (c, o)).1 t)
  | [], _, _ => rfl
  | v :: r, o, c => by
    unfold World.setCells
    rw [World.setCell_alloc_at c t w.heap.size o v rfl, setCells_new w t r (o + 1)]; rfl
/-- A row with others laid into it. -/
def spliceA (c : Array Value) (o : Nat) (vs : List Value) : Array Value := (vs.foldl (fun x v => (x.1.setIfInBounds x.2 v, x.2 + 1)) (c, o)).1
theorem spliceA_get : ∀ (vs : List Value) (o : Nat) (c : Array Value) (j : Nat), (spliceA c o vs)[j]? = if o ≤ j ∧ j < o + vs.length ∧ j < c.size then vs[j - o]? else c[j]?
  | [], o, c, j => by
    rw [if_neg (by simp; omega)]; rfl
  | v :: r, o, c, j => by
    have ih := spliceA_get r (o + 1) (c.setIfInBounds o v) j
    have e : spliceA c o (v :: r) = spliceA (c.setIfInBounds o v) (o + 1) r := rfl
    rw [e, ih]
    simp only [Array.size_setIfInBounds, Array.getElem?_setIfInBounds, List.length_cons]
    by_cases h1 : o = j
    · subst h1
      by_cases h2 : o < c.size
      · simp [h2, show ¬ (o + 1 ≤ o) by omega]
      · simp [h2, show ¬ (o + 1 ≤ o) by omega]
    · by_cases h2 : o + 1 ≤ j ∧ j < o + 1 + r.length ∧ j < c.size
      · rw [if_pos h2, if_pos ⟨by omega, by omega, h2.2.2⟩, show j - o = (j - (o + 1)) + 1 by omega, List.getElem?_cons_succ]
      · rw [if_neg h2, if_neg h1, if_neg (by omega)]
@[go_sem] theorem spliceA_all (c : Array Value) (vs : List Value) (h : vs.length = c.size) : spliceA c 0 vs = vs.toArray := by
  apply arr_ext; intro j
  rw [spliceA_get]
  by_cases hj : j < c.size
  · simp [hj, h]
  · simp [hj]; omega
def over {α : Type} (f : Nat → α) (o n : Nat) (g : Nat → α) : Nat → α := fun j => if o ≤ j ∧ j < o + n then g (j - o) else f j
@[go_sem] theorem spliceU (N : Nat) (f : Nat → UInt32) (o n : Nat) (g : Nat → UInt32) : spliceA (rowU N f) o (rowU n g).toList = rowU N (over f o n g) := by
  apply arr_ext; intro j
  rw [spliceA_get, rowU_get, Array.getElem?_toList, rowU_get, rowU_get]
  simp only [Array.length_toList, rowU_size, over]
  by_cases hj : j < N
  · by_cases h2 : o ≤ j ∧ j < o + n
    · simp [hj, h2, show j - o < n by omega]
    · simp only [hj, if_true, h2, if_false, and_true]
  · simp [hj]
@[go_sem] theorem spliceB (N : Nat) (f : Nat → UInt8) (o n : Nat) (g : Nat → UInt8) : spliceA (rowB N f) o (rowB n g).toList = rowB N (over f o n g) := by
  apply arr_ext; intro j
  rw [spliceA_get, rowB_get, Array.getElem?_toList, rowB_get, rowB_get]
  simp only [Array.length_toList, rowB_size, over]
  by_cases hj : j < N
  · by_cases h2 : o ≤ j ∧ j < o + n
    · simp [hj, h2, show j - o < n by omega]
    · simp only [hj, if_true, h2, if_false, and_true]
  · simp [hj]
@[go_sem] theorem setCells_alloc (w : World) (c : Array Value) (t : TypeId) (b o : Nat) (vs : List Value) :
    (w.alloc (.cells c t)).setCells b o vs = if b < w.heap.size then (w.setCells b o vs).alloc (.cells c t) else if b = w.heap.size then w.alloc (.cells (spliceA c o vs) t) else setsFar (w.alloc (.cells c t)) b o vs := by
  split
  · exact setCells_past b _ vs o w ‹_›
  · split
    · rename_i hb
      subst hb; exact setCells_new w t vs o c
    · rfl
theorem setCells_wx_lt (b : Nat) (X : More) : ∀ (vs : List Value) (o : Nat) (w : World), b < w.heap.size → (wx w X).setCells b o vs = wx (w.setCells b o vs) X
  | [], _, _, _ => rfl
  | v :: r, o, w, h => by
    unfold World.setCells
    rw [wx_set w X _ v h, setCells_wx_lt b X r (o + 1) _ (by simpa [World.setCell] using h)]
/-- A row laid into a block behind. -/
def More.sets (X : More) (i o : Nat) (vs : List Value) : More := { X with blocks := X.blocks.modify i fun
  | .cells c elem frozen => .cells (spliceA c o vs) elem frozen
  | ob => ob }
@[go_sem] theorem More.sets_len (X : More) (i o : Nat) (vs : List Value) : (X.sets i o vs).blocks.length = X.blocks.length := by simp [More.sets]
theorem More.sets_get_raw (X : More) (i k o : Nat) (vs : List Value) : (X.sets i o vs).blocks[k]? = if i = k then (X.blocks[k]?).map (fun | .cells c elem frozen => .cells (spliceA c o vs) elem frozen | ob => ob) else X.blocks[k]? := by
  simp only [More.sets, List.getElem?_modify]
  split <;> simp
@[go_sem] theorem More.sets_get (X : More) (i k o : Nat) (vs : List Value) : (X.sets i o vs).at k = if i = k then (X.at k).map (fun | .cells c elem frozen => .cells (spliceA c o vs) elem frozen | ob => ob) else X.at k := More.sets_get_raw X i k o vs
theorem setCells_wx_more (w : World) (b : Nat) (hb : ¬ b < w.heap.size) : ∀ (vs : List Value) (o : Nat) (X : More), (wx w X).setCells b o vs = wx w (X.sets (b - w.heap.size) o vs)
  | [], o, X => by
    have : X.sets (b - w.heap.size) o [] = X := by
      unfold More.sets
      have : (X.blocks.modify (b - w.heap.size) fun | .cells c elem frozen => .cells (spliceA c o []) elem frozen | ob => ob) = X.blocks := by
        apply List.ext_getElem?; intro k
        rw [List.getElem?_modify]
        split
        · cases X.blocks[k]? with
          | none => rfl
          | some ob => cases ob <;> rfl
        · cases X.blocks[k]? <;> rfl
      rw [this]
    rw [this]; rfl
  | v :: r, o, X => by
    unfold World.setCells
    rw [wx_set_more w X _ v hb, setCells_wx_more w b hb r (o + 1)]
    congr 1
    simp only [More.sets, More.set, More.mk.injEq, and_true]
    apply List.ext_getElem?; intro k
    simp only [List.getElem?_modify]
    by_cases hk : b - w.heap.size = k
    · subst hk
      cases X.blocks[b - w.heap.size]? with
      | none => simp
      | some ob => cases ob <;> simp [spliceA]
    · simp [hk]
@[go_sem] theorem setCells_wx (w : World) (X : More) (b o : Nat) (vs : List Value) : (wx w X).setCells b o vs = if b < w.heap.size then wx (w.setCells b o vs) X else wx w (X.sets (b - w.heap.size) o vs) := by
  split
  · exact setCells_wx_lt b X vs o w ‹_›
  · exact setCells_wx_more w b ‹_› vs o X
@[go_sem] theorem setCells_drew (b : Nat) : ∀ (vs : List Value) (o : Nat) (w : World), w.drew.setCells b o vs = (w.setCells b o vs).drew
  | [], _, _ => rfl
  | v :: r, o, w => by
    unfold World.setCells
    rw [World.setCell_drew, setCells_drew b r (o + 1)]
@[go_sem] theorem setCells_sizeR (b o : Nat) (vs : List Value) (w : World) : (w.setCells b o vs).heap.size = w.heap.size := setCells_size b vs o w
@[go_sem] theorem rowU_all (n : Nat) (f : Nat → UInt32) : oneCells (rowU n f) = true := rowU_one n f
@[go_sem] theorem rowB_all (n : Nat) (f : Nat → UInt8) : oneCells (rowB n f) = true := rowB_one n f
@[go_sem] theorem rowI_all (n : Nat) (f : Nat → Int) : oneCells (rowI n f) = true := rowI_one n f

/-! ### copy -/
def copyRun (P : Program) (at_ : Array TypeId) (ty : TypeId) (x y : Value) (w : World) : Result Next := ((Builtin.copy_ at_ ty #[x, y]).run P w).andThen fun v w' => .ok (.value v) w'
def copyRaw (P : Program) (at_ : Array TypeId) (ty : TypeId) (x y : Value) (w : World) : Result Next := ((Builtin.copy_ at_ ty #[x, y]).run P w).andThen fun v w' => .ok (.value v) w'
@[go_sem ↓ high] theorem run_copy_pre {P : Program} (ρ : Operand → Value) (d : Option Tmp) (x y : Operand) (at_ : Array TypeId) (ty : TypeId) (pos : String) (aft : Array Edge) (g : Option (Nat × Bool)) (w : World) :
    Sem.run P (execOp ρ ⟨d, .call { callee := .builtin .copy, args := #[x, y], argTypes := at_ }, ty, pos, aft, g⟩) w = copyRun P at_ ty (ρ x) (ρ y) w := by
  simp only [execOp, resolve, invoke, builtin, Sem.run_bind, Sem.run_pure, Result.andThen_ok, List.map_toArray, List.map_cons, List.map_nil, copyRun]
@[go_sem low] theorem copyRun_other {P : Program} (at_ : Array TypeId) (ty : TypeId) (x y : Value) (w : World) : copyRun P at_ ty x y w = ((Builtin.copy_ at_ ty #[x, y]).run P w).andThen fun v w' => .ok (.value v) w' := rfl
theorem copyRun_row {P : Program} {dT sT elem : TypeId} (hu : P.underlying dT = some (.slice elem)) (hs : (P.info? elem).map (·.size) = some 1) (ty : TypeId) (b o b' o' n c n' c' : Nat) (w : World) :
    copyRun P #[dT, sT] ty (.slice (some ⟨b, o, none⟩) n c) (.slice (some ⟨b', o', none⟩) n' c') w =
      match cellsN w b' o' (min n' n) with
      | some cs => if ((cellsN w b o (min n' n)).isSome && !frozenN w b o (min n' n) && oneCells cs) = true then .ok (.value (.int .i64 (min n' n : Nat))) (w.setCells b o cs.toList)
        else copyRaw P #[dT, sT] ty (.slice (some ⟨b, o, none⟩) n c) (.slice (some ⟨b', o', none⟩) n' c') w
      | none => copyRaw P #[dT, sT] ty (.slice (some ⟨b, o, none⟩) n c) (.slice (some ⟨b', o', none⟩) n' c') w := by
  cases hc : cellsN w b' o' (min n' n) with
  | none => rfl
  | some cs =>
    simp only
    split
    · rename_i h
      simp only [Bool.and_eq_true, Bool.not_eq_true'] at h
      obtain ⟨⟨h1, h2⟩, h3⟩ := h
      obtain ⟨ds, hds⟩ := Option.isSome_iff_exists.1 h1
      obtain ⟨h4, h5⟩ := cellsN_some.1 hds
      obtain ⟨h6, h7⟩ := cellsN_some.1 hc
      have := run_copy_cells (P := P) w dT sT ty elem b o n c ⟨b', o', none⟩ n' c' cs.toList hu hs (by rw [Array.length_toList, h6])
        (fun j v hv => by rw [Addr.add_mid]; exact cellsN_range hc j v hv)
        (fun j hj => by rw [Array.length_toList, h6] at hj; rw [h5 j hj, Array.getElem?_eq_getElem (by omega)]; rfl)
        (fun j hj => by rw [Array.length_toList, h6] at hj; exact frozenN_false.1 h2 j hj)
        (fun v hv => (Array.all_eq_true_iff_forall_mem.1 h3) v (by simpa using hv))
      unfold copyRun
      rw [this, Array.length_toList, h6]; rfl
    · rfl

/-! ### A part of an array that is held as a value -/
def idxRaw (P : Program) (t : TypeId) (v x : Value) (w : World) : Result Value := (Instr.index t v x).run P w
theorem index_row {P : Program} {t e : TypeId} {n s : Nat} {d : TypeDesc} (hu : P.underlying t = some (.array n e)) (hd : P.underlying e = some d) (hr : d.isRow = true) (hi : (P.info? e).map (·.size) = some s) (cs : Array Value) (i : Int) (w : World) :
    (Instr.index t (.agg cs) (.int .i64 i)).run P w = if 0 ≤ i ∧ i < n then .ok (.agg (cs.extract (i.toNat * s) (i.toNat * s + s))) w else idxRaw P t (.agg cs) (.int .i64 i) w := by
  by_cases h : 0 ≤ i ∧ i < (n : Int)
  · rw [if_pos h]
    obtain ⟨j, hj, hs⟩ : ∃ j, P.info? e = some j ∧ j.size = s := by
      cases hq : P.info? e with
      | none => rw [hq] at hi; cases hi
      | some j => exact ⟨j, rfl, by rw [hq] at hi; simpa using hi⟩
    have hrow : (isAgg e).run P w = .ok true w := by
      cases d <;> first | (simp [isAgg, run_underlying hd]; done) | cases hr
    simp only [Instr.index, asIntOf, Sem.run_bind, Sem.run_pure, Result.andThen_ok, run_underlying hu, if_pos h, part, run_sizeOf w hj, hrow, Program.cellsOf, hj, hs, Option.map_some, Option.getD_some, if_true]
  · rw [if_neg h]; rfl
theorem index_rowI {P : Program} {t e : TypeId} {n s N : Nat} {d : TypeDesc} (hu : P.underlying t = some (.array n e)) (hd : P.underlying e = some d) (hr : d.isRow = true) (hi : (P.info? e).map (·.size) = some s) (hN : N = n * s) (f : Nat → Int) (i : Int) (w : World) :
    (Instr.index t (.agg (rowI N f)) (.int .i64 i)).run P w = if 0 ≤ i ∧ i < n then .ok (.agg (rowI s (shiftF f (i.toNat * s)))) w else idxRaw P t (.agg (rowI N f)) (.int .i64 i) w := by
  rw [index_row hu hd hr hi]
  split
  · rename_i h
    have h2 : i.toNat * s + s ≤ N := by
      rw [hN, ← Nat.succ_mul]; exact Nat.mul_le_mul_right _ (by omega)
    rw [rowI_extract, Nat.min_eq_left h2, Nat.add_sub_cancel_left]
  · rfl
theorem index_one {P : Program} {t e : TypeId} {n : Nat} {d : TypeDesc} (hu : P.underlying t = some (.array n e)) (hd : P.underlying e = some d) (hr : d.isRow = false) (hi : (P.info? e).map (·.size) = some 1) (cs : Array Value) (i : Int) (w : World) :
    (Instr.index t (.agg cs) (.int .i64 i)).run P w = if 0 ≤ i ∧ i < n then (match cs[i.toNat]? with | some v => .ok v w | none => idxRaw P t (.agg cs) (.int .i64 i) w) else idxRaw P t (.agg cs) (.int .i64 i) w := by
  by_cases h : 0 ≤ i ∧ i < (n : Int)
  · rw [if_pos h]
    cases hc : cs[i.toNat]? with
    | none => rfl
    | some v =>
      obtain ⟨j, hj, hs⟩ : ∃ j, P.info? e = some j ∧ j.size = 1 := by
        cases hq : P.info? e with
        | none => rw [hq] at hi; cases hi
        | some j => exact ⟨j, rfl, by rw [hq] at hi; simpa using hi⟩
      have hrow : (isAgg e).run P w = .ok false w := by
        cases d <;> first | (simp [isAgg, run_underlying hd]; done) | cases hr
      simp only [Instr.index, asIntOf, Sem.run_bind, Sem.run_pure, Result.andThen_ok, run_underlying hu, if_pos h, part, run_sizeOf w hj, hrow, Program.cellsOf, hj, hs, Option.map_some, Option.getD_some, Nat.mul_one, hc, if_false, Bool.false_eq_true]
  · rw [if_neg h]; rfl

/-- A result that lies in memory. -/
theorem ret_row {P : Program} {fn : Func} {p : Tmp} {ty : TypeId} {d : TypeDesc} {n b : Nat} {cs : Array Value} {R : Ending → World → Prop} {a : Act} {w : World} (h : fn.results = #[.cell p ty])
    (hu : P.underlying ty = some d) (hd : d.isRow = true) (hi : (P.info? ty).map (·.size) = some n) (hp : a.tmps.getD p undef = .pointer (some ⟨b, 0, none⟩)) (hc : cellsN w b 0 n = some cs) (hdf : a.defers = [])
    (hR : R (.returned (.agg cs)) w) : bodyPost P fn R .ret a w := by
  have h1 := (cellsN_some.1 hc).1
  have hrun := run_loadVar_mid (P := P) w b 0 ty cs.toList d (cellsN_range hc) hu hd (by rw [hi]; simp [h1])
  have hp' : a.tmps[p]?.getD undef = .pointer (some ⟨b, 0, none⟩) := by simpa using hp
  exact bodyPost_ret (by simp [results, h, hp', asAddr, hrun]) hdf hR
end Go.Proofs.YtabjamkkhlbajaaDoor

/- Arrays of numbers that are held against one another. Over whatever program. -/
set_option linter.unusedSimpArgs false
set_option linter.unusedVariables false
set_option maxRecDepth 20000
namespace Go.Proofs.YtabjamkkhlbajaaDoor
open Go.RowKit
section
variable {P : Program}
theorem equalIn_ints {t e : TypeId} {k : IntKind} {len : Nat} (hu : P.underlying t = some (.array len e)) (he : P.underlying e = some (.int k)) (hs : (P.info? e).map (·.size) = some 1) (xs ys : Array Value) (x y : Nat → Int)
    (hx : ∀ i, i < len → xs[i]? = some (.int k (x i))) (hy : ∀ i, i < len → ys[i]? = some (.int k (y i))) (d : Nat) (w : World) :
    (Op.equalIn (d + 2) t (.agg xs) (.agg ys)).run P w = .ok ((List.range len).all fun i => x i == y i) w := by
  obtain ⟨j, hj, hsz⟩ : ∃ j, P.info? e = some j ∧ j.size = 1 := by
    cases hq : P.info? e with
    | none => rw [hq] at hs; cases hs
    | some i => exact ⟨i, rfl, by rw [hq] at hs; simpa using hs⟩
  have hce : P.cellsOf e = 1 := by simp [Program.cellsOf, hj, hsz]
  have hpart : ∀ (zs : Array Value) (z : Nat → Int) (i : Nat), zs[i]? = some (.int k (z i)) → (part e zs (i * P.cellsOf e)).run P w = .ok (.int k (z i)) w := by
    intro zs z i h
    have hrow : (isAgg e).run P w = .ok false w := by simp [isAgg, run_underlying he]
    simp [part, run_sizeOf w hj, hce, hrow, h]
  have heq : ∀ a b : Int, (Op.equalIn (d + 1) e (.int k a) (.int k b)).run P w = .ok (a == b) w := fun a b => run_equalIn_int w d e k k a b he
  rw [show d + 2 = (d + 1) + 1 from rfl]
  generalize d + 1 = m at heq ⊢
  simp only [Op.equalIn, Sem.run_bind, run_underlying hu, Result.andThen_ok, run_sizeOf w hj, hsz]
  rw [Std.Legacy.Range.forIn_eq_forIn_range']
  rw [show Std.Legacy.Range.size [0:len] = len by simp [Std.Legacy.Range.size]]
  rw [← List.range_eq_range']
  generalize hl : List.range len = l
  have hm : ∀ i ∈ l, i < len := fun i hi => by rw [← hl] at hi; exact List.mem_range.1 hi
  clear hl
  induction l with
  | nil => simp
  | cons i l ih =>
    have hi := hm i List.mem_cons_self
    simp only [List.forIn_cons, Sem.run_bind, hpart xs x i (hx i hi), hpart ys y i (hy i hi), Result.andThen_ok, heq, List.all_cons]
    cases hxy : (x i == y i) with
    | true =>
      simp only [Bool.not_true, Bool.false_eq_true, if_false, Sem.run_pure, Result.andThen_ok, Bool.true_and]
      exact ih fun i hi => hm i (List.mem_cons_of_mem _ hi)
    | false =>
      simp only [Bool.not_false, if_true, Sem.run_pure, Result.andThen_ok, Bool.false_and]
theorem all_range {n : Nat} {p : Nat → Bool} : (List.range n).all p = decide (∀ i, i < n → p i = true) := by
  rw [Bool.eq_iff_iff]; simp
/-- Are the first n the same? -/
def eqF {α : Type} [DecidableEq α] (f g : Nat → α) (n : Nat) : Bool := decide (∀ i, i < n → f i = g i)
theorem eqF_true {α : Type} [DecidableEq α] {f g : Nat → α} {n : Nat} : eqF f g n = true ↔ ∀ i, i < n → f i = g i := by simp [eqF]
theorem eqlRow {t e : TypeId} {k : IntKind} {len : Nat} (hu : P.underlying t = some (.array len e)) (he : P.underlying e = some (.int k)) (hs : (P.info? e).map (·.size) = some 1) (xs ys : Array Value) (x y : Nat → Int)
    (hx : ∀ i, i < len → xs[i]? = some (.int k (x i))) (hy : ∀ i, i < len → ys[i]? = some (.int k (y i))) (w : World) (b : Bool) (hb : b = decide (∀ i, i < len → x i = y i)) :
    (binOp .eql t (.agg xs) (.agg ys)).run P w = .ok (.bool b) w := by
  rw [run_eql_struct, equalIn_ints hu he hs xs ys x y hx hy 9998 w, all_range, hb]; simp
theorem neqRow {t e : TypeId} {k : IntKind} {len : Nat} (hu : P.underlying t = some (.array len e)) (he : P.underlying e = some (.int k)) (hs : (P.info? e).map (·.size) = some 1) (xs ys : Array Value) (x y : Nat → Int)
    (hx : ∀ i, i < len → xs[i]? = some (.int k (x i))) (hy : ∀ i, i < len → ys[i]? = some (.int k (y i))) (w : World) (b : Bool) (hb : b = decide (∀ i, i < len → x i = y i)) :
    (binOp .neq t (.agg xs) (.agg ys)).run P w = .ok (.bool (!b)) w := by
  rw [run_neq_struct, equalIn_ints hu he hs xs ys x y hx hy 9998 w, all_range, hb]; simp
theorem eqF_B (f g : Nat → UInt8) (n : Nat) : eqF f g n = decide (∀ i, i < n → bn (f i) = bn (g i)) := by
  rw [Bool.eq_iff_iff]; simp only [eqF_true, decide_eq_true_eq]
  exact ⟨fun h i hi => by rw [h i hi], fun h i hi => bn_inj (h i hi)⟩
theorem eqlB {t e : TypeId} {n : Nat} (hu : P.underlying t = some (.array n e)) (he : P.underlying e = some (.int .u8)) (hs : (P.info? e).map (·.size) = some 1) (f g : Nat → UInt8) (w : World) :
    (binOp .eql t (.agg (rowB n f)) (.agg (rowB n g))).run P w = .ok (.bool (eqF f g n)) w :=
  eqlRow hu he hs _ _ (fun i => bn (f i)) (fun i => bn (g i)) (fun i hi => by rw [rowB_get, if_pos hi]) (fun i hi => by rw [rowB_get, if_pos hi]) w _ (eqF_B f g n)
theorem neqB {t e : TypeId} {n : Nat} (hu : P.underlying t = some (.array n e)) (he : P.underlying e = some (.int .u8)) (hs : (P.info? e).map (·.size) = some 1) (f g : Nat → UInt8) (w : World) :
    (binOp .neq t (.agg (rowB n f)) (.agg (rowB n g))).run P w = .ok (.bool (!eqF f g n)) w :=
  neqRow hu he hs _ _ (fun i => bn (f i)) (fun i => bn (g i)) (fun i hi => by rw [rowB_get, if_pos hi]) (fun i hi => by rw [rowB_get, if_pos hi]) w _ (eqF_B f g n)
end
end Go.Proofs.YtabjamkkhlbajaaDoor

/- Slices of the call's own that grow. Over whatever program. -/
set_option linter.unusedSimpArgs false
set_option linter.unusedVariables false
set_option maxRecDepth 20000
namespace Go.Proofs.YtabjamkkhlbajaaDoor
open Go.RowKit
section
variable {P : Program}
theorem owns_ex {w w' : World} {B : Nat} {e : TypeId} {s : Nat} {v : Value} {n : Nat} {xs : List Value} (h : w.ownsRow B e s v n xs) (k : Ex w w') : w'.ownsRow B e s v n xs := by
  obtain ⟨X, rfl⟩ := k
  exact h.kept (row := none) ⟨rfl, rfl, rfl, by simp [wx], fun j hj _ => wx_heap w X j hj⟩ (by cases hv : v.ownBlock <;> simp)
theorem owns_nil (w : World) (B : Nat) (e : TypeId) (s : Nat) : w.ownsRow B e s (.slice none 0 0) 0 [] := ⟨by simp, Or.inl ⟨rfl, rfl⟩⟩
/-- A slice whose elements lie in memory as a list's. -/
theorem owns_new {w : World} {B g : Nat} {e : TypeId} {s : Nat} {n cap : Nat} {cs : Array Value} {xs : List Value} (hg : g = w.heap.size) (hB : B ≤ w.heap.size) (hn : n ≤ cap) (hc : cap ≤ maxLen) (hs : cs.size = cap * s) (hx : xs = cs.toList.take (n * s)) :
    (w.alloc (.cells cs e)).ownsRow B e s (.slice (some ⟨g, 0, none⟩) n cap) n xs := by
  subst hg hx
  exact ⟨by rw [List.length_take, Array.length_toList, hs]; exact Nat.min_eq_left (Nat.mul_le_mul_right _ hn), Or.inr ⟨_, cap, cs, rfl, hB, heap_alloc_new _ _, hn, hc, hs, rfl⟩⟩
/-- What an element's type is good for. -/
structure AppT (P : Program) (t e : TypeId) (size bytes : Nat) (z : Value) : Prop where
  ht : P.underlying t = some (.slice e)
  hi : (P.info? e).map (fun i => (i.zero, i.size, i.bytes)) = some (some z, size, bytes)
  hzs : z.cells.size = size
  hsz : 0 < size
theorem below_app {B : Nat} {w w' : World} {e : TypeId} {s : Nat} {v : Value} {n : Nat} {xs : List Value} (h : w.ownsRow B e s v n xs) (hg : w.grownBy w' v.ownBlock) (hB : B ≤ w.heap.size) : Below B w w' :=
  (Below.refl B w).grown hg hB fun k hk => (h.lt k hk).1
theorem ex_size {w w' : World} (k : Ex w w') : w.heap.size ≤ w'.heap.size := (ex_below k).size
theorem news_alloc {w w' : World} {cs : Array Value} {e : TypeId} {g : Nat} (hg : g = w.heap.size) (k : Ex (w.alloc (.cells cs e)) w') : ∀ (j : Nat) (u : Value), cs.toList[j]? = some u → w'.cell? ((⟨g, 0, none⟩ : Addr).add j) = some u := by
  intro j u hj
  subst hg
  have hb : w'.heap[w.heap.size]? = some (.cells cs e (0, 0)) := by
    obtain ⟨X, rfl⟩ := k
    rw [wx_heap _ _ _ (by simp [go_sem])]; exact heap_alloc_new _ _
  have hadd : (⟨w.heap.size, 0, none⟩ : Addr).add j = ⟨w.heap.size, j, none⟩ := by unfold Addr.add; split <;> simp_all
  rw [hadd, cell_of_row w' w.heap.size j cs e (0, 0) hb]
  simpa using hj
theorem wpApp {t e : TypeId} {size bytes : Nat} {z : Value} (T : AppT P t e size bytes z) {ops : Array Oper} {rest : List Oper} {o : Oper} {a : Act} {w : World} {Q : Exit → Act → World → Prop} (s x : Operand) (hgd : o.guard = none)
    (ho : o.op = .call { callee := .builtin .append, args := #[s, x], argTypes := #[t, t] })
    {B : Nat} {v : Value} {n : Nat} {xs : List Value} (hown : w.ownsRow B e size v n xs) (hs : a.eval s = v)
    (ad : Addr) (m c : Nat) (news : List Value) (hx : a.eval x = .slice (some ad) m c) (hl : news.length = m * size) (hnews : ∀ j u, news[j]? = some u → w.cell? (ad.add j) = some u) (h1 : ∀ u ∈ news, u.oneCell' = true)
    (h63 : n + m ≤ maxLen) (hbytes : (n + m) * bytes ≤ 140737488355328) (hbase : B ≤ w.heap.size)
    (h : ∀ v' w', w'.ownsRow B e size v' (n + m) (xs ++ news) → Below B w w' → wpList P ops Q rest (a.put o.dst v') w') : wpList P ops Q (o :: rest) a w := by
  obtain ⟨i, hi, h1', h2', h3'⟩ := info_parts T.hi
  exact wpList_append_own w hgd s x t ho B e i z size bytes T.ht hi h1' h2' h3' T.hzs T.hsz v n xs hs hown ad m c news hx hl hnews h1 h63 hbytes hbase fun v' w' hw hg _ => h v' w' hw (below_app hown hg hbase)
/-- A row of one cell, n times. -/
def manyC (z : Value) (n : Nat) : Array Value := madeCells z.cells n
def makeRaw (P : Program) (t : TypeId) (x y : Value) (w : World) : Result Value := (Instr.makeSlice t x y).run P w
theorem make_rule {t e : TypeId} {size bytes : Nat} {z : Value} (T : AppT P t e size bytes z) (l c : Int) (w : World) :
    (Instr.makeSlice t (.int .i64 l) (.int .i64 c)).run P w = if 0 ≤ l ∧ l ≤ c ∧ (bytes : Int) * c ≤ 281474976710656 ∧ c ≤ 9223372036854775807 then
      .ok (.slice (some ⟨w.heap.size, 0, none⟩) l.toNat c.toNat) (w.alloc (.cells (manyC z (c.toNat * size)) e)) else makeRaw P t (.int .i64 l) (.int .i64 c) w := by
  split
  · rename_i h
    obtain ⟨i, hi, h1', h2', h3'⟩ := info_parts T.hi
    subst h2' h3'
    exact run_make w t e i z T.ht hi h1' .i64 .i64 l c h.1 h.2.1 h.2.2.1 h.2.2.2
  · rfl
theorem manyC_size (z : Value) (n : Nat) : (manyC z n).size = n := size_madeCells _ _
theorem manyC_B (n : Nat) : manyC (.int .u8 0) n = rowB n fun _ => 0 := by
  apply arr_ext; intro j
  rw [rowB_get]
  by_cases h : j < n
  · rw [if_pos h]; simp [manyC, madeCells, Value.cells, h, Nat.mod_one]; rfl
  · rw [if_neg h, Array.getElem?_eq_none (by rw [manyC_size]; omega)]
end
end Go.Proofs.YtabjamkkhlbajaaDoor
