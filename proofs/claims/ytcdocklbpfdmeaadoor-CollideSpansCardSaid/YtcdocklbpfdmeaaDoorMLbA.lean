import Derived.Test.YtcdocklbpfdmeaaDoorMLaC
import Derived.Test.YtcdocklbpfdmeaaDoorMDg
import Derived.Test.YtcdocklbpfdmeaaDoorMSeq
import Derived.Test.YtcdocklbpfdmeaaDoorMClimb
import Derived.Test.YtcdocklbpfdmeaaDoorMRev

/- CollideDigests: the law. -/
set_option linter.unusedSimpArgs false
set_option linter.unusedVariables false
set_option linter.unnecessarySimpa false
set_option maxRecDepth 20000
namespace Go.Proofs.YtcdocklbpfdmeaaDoor
open Go.RowKit
end Go.Proofs.YtcdocklbpfdmeaaDoor

/- How the data of a row of the search are opened. -/
set_option linter.unusedSimpArgs false
set_option linter.unusedVariables false
set_option linter.unnecessarySimpa false
set_option maxRecDepth 20000
namespace Go.Proofs.YtcdocklbpfdmeaaDoor
open Go.RowKit Go.ChangeShapes Go.WideShapes Go.ChangeAt
theorem ccell : Tryd.prog.cellsOf 42 = 2 := by kernel_rfl
theorem crange : Tryd.prog.cellsOf 24 = 3 := by kernel_rfl
theorem cspan : Tryd.prog.cellsOf 27 = 4 := by kernel_rfl
theorem c1str : Tryd.prog.cellsOf 9 = 1 := by kernel_rfl
theorem c1bool : Tryd.prog.cellsOf 4 = 1 := by kernel_rfl
theorem c1int : Tryd.prog.cellsOf 3 = 1 := by kernel_rfl
theorem c1cells : Tryd.prog.cellsOf 22 = 1 := by kernel_rfl
theorem c1ids : Tryd.prog.cellsOf 25 = 1 := by kernel_rfl
def prs (n : Nat) (E : Nat → Pr) : List Pr := (List.range n).map E
theorem prs_len (n : Nat) (E : Nat → Pr) : (prs n E).length = n := by simp [prs]
theorem slp_of_sln {w : World} {a : Option Addr} {n : Nat} {E : Nat → Pr} (h : SlN w a n 2 fun i => PC (E i)) : SlP w a (prs n E) := by
  rcases h.out with rfl | ⟨g, off, h1, h2, h3⟩
  · exact ⟨Or.inl rfl⟩
  · refine ⟨Or.inr ⟨g, off, h1, h2, fun i d hd => ?_⟩⟩
    have hi : i < n := by
      have := (List.getElem?_eq_some_iff.1 hd).1
      rwa [prs_len] at this
    unfold prs at hd
    rw [List.getElem?_map, List.getElem?_range hi] at hd
    obtain rfl : E i = d := by simpa using hd
    exact h3 i hi
section
variable {H : Type} {enc : TypeId × Value → H} {w : World} {base : Nat} {sp : Nat → Bool} {held : Bool}
theorem pr_of_trod {fuel : Nat} {cs : List Value} {x : DataW H × List MemPlace} (h : DataW.trod enc Tryd.prog w base sp held fuel 42 cs = some x) : ∃ p : Pr, cs = (PC p).toList := by
  obtain ⟨xs, m, _, _, hl, hxl, hel⟩ := DataW.trod_struct Tryd.underlying42 h
  rw [ccell] at hl
  have hxl' : xs.length = 2 := hxl
  have e0 : DataW.trod enc Tryd.prog w base sp held m 9 ((cs.drop 0).take (Tryd.prog.cellsOf 9)) = xs[0]? := hel 0 _ rfl
  have e1 : DataW.trod enc Tryd.prog w base sp held m 9 ((cs.drop 1).take (Tryd.prog.cellsOf 9)) = xs[1]? := hel 1 _ rfl
  rw [c1str] at e0 e1
  rw [List.getElem?_eq_getElem (by omega)] at e0 e1
  obtain ⟨s, hs, _, _⟩ := DataW.trod_string Tryd.underlying9 e0
  obtain ⟨t, ht, _, _⟩ := DataW.trod_string Tryd.underlying9 e1
  obtain ⟨a, b, rfl⟩ : ∃ a b, cs = [a, b] := by
    match cs, hl with
    | [a, b], _ => exact ⟨a, b, rfl⟩
  simp at hs ht
  subst hs ht
  exact ⟨(s, t), rfl⟩
theorem rg_of_trod {fuel : Nat} {cs : List Value} {x : DataW H × List MemPlace} (h : DataW.trod enc Tryd.prog w base sp held fuel 24 cs = some x) : ∃ r : Rg, cs = [.string r.lo, .string r.hi, .bool r.op] := by
  obtain ⟨xs, m, _, _, hl, hxl, hel⟩ := DataW.trod_struct Tryd.underlying24 h
  rw [crange] at hl
  have hxl' : xs.length = 3 := hxl
  have e0 : DataW.trod enc Tryd.prog w base sp held m 9 ((cs.drop 0).take (Tryd.prog.cellsOf 9)) = xs[0]? := hel 0 _ rfl
  have e1 : DataW.trod enc Tryd.prog w base sp held m 9 ((cs.drop 1).take (Tryd.prog.cellsOf 9)) = xs[1]? := hel 1 _ rfl
  have e2 : DataW.trod enc Tryd.prog w base sp held m 4 ((cs.drop 2).take (Tryd.prog.cellsOf 4)) = xs[2]? := hel 2 _ rfl
  rw [c1str] at e0 e1
  rw [c1bool] at e2
  rw [List.getElem?_eq_getElem (by omega)] at e0 e1 e2
  obtain ⟨s, hs, _, _⟩ := DataW.trod_string Tryd.underlying9 e0
  obtain ⟨t, ht, _, _⟩ := DataW.trod_string Tryd.underlying9 e1
  obtain ⟨b, hb, _⟩ := DataW.trod_bool Tryd.underlying4 e2
  obtain ⟨a1, a2, a3, rfl⟩ : ∃ a b c, cs = [a, b, c] := by
    match cs, hl with
    | [a, b, c], _ => exact ⟨a, b, c, rfl⟩
  simp at hs ht hb
  subst hs ht hb
  exact ⟨⟨s, t, b⟩, rfl⟩
theorem cells_of_trod {fuel : Nat} {cs : List Value} {x : DataW H × List MemPlace} (h : DataW.trod enc Tryd.prog w base sp held fuel 22 cs = some x) :
    ∃ (a : Option Addr) (l : List Pr) (cap : Nat), cs = [.slice a l.length cap] ∧ l.length ≤ cap ∧ cap ≤ maxLen ∧ (a = none → cap = 0) ∧ SlP w a l := by
  obtain ⟨a, n, c, E, h1, h2, h3, h4, h5⟩ := elems_open PC PC_size Tryd.underlying22 ccell (by decide) (fun _ _ _ h => pr_of_trod h) h
  exact ⟨a, prs n E, c, by rw [prs_len]; exact h1, by rw [prs_len]; exact h2, h3, h4, slp_of_sln h5⟩
theorem ids_of_trod {fuel : Nat} {cs : List Value} {x : DataW H × List MemPlace} (h : DataW.trod enc Tryd.prog w base sp held fuel 25 cs = some x) :
    ∃ (a : Option Addr) (l : List Dg) (cap : Nat), cs = [.slice a l.length cap] ∧ l.length ≤ cap ∧ cap ≤ maxLen ∧ (a = none → cap = 0) ∧ SlD w a l := by
  obtain ⟨a, n, c, E, h1, h2, h3, h4, h5⟩ := elems_open (rowB 32) (fun f => rowB_size 32 f) Tryd.underlying25 cid (by decide) (fun _ _ _ h => arrB_of_trod Tryd.underlying46 Tryd.underlying5 cb cid h) h
  exact ⟨a, dgs n E, c, by rw [dgs_len]; exact h1, by rw [dgs_len]; exact h2, h3, h4, sld_of_sln h5⟩
theorem argCells {b0 : Nat} {r : Reach} {v : Value} {d : DataW H} {p : List MemPlace} (h : Value.okWide Tryd.prog w r b0 22 v) (hd : DataW.Trod enc Tryd.prog w base sp held 22 v d p) :
    ∃ (a : Option Addr) (l : List Pr) (cap : Nat), v = .slice a l.length cap ∧ l.length ≤ cap ∧ cap ≤ maxLen ∧ (a = none → cap = 0) ∧ SlP w a l := by
  obtain ⟨fuel, x, hx⟩ := arg_slice Tryd.underlying22 h hd
  obtain ⟨a, l, c, h1, h2⟩ := cells_of_trod hx
  exact ⟨a, l, c, by simpa using h1, h2⟩
end
end Go.Proofs.YtcdocklbpfdmeaaDoor

/- Collide's laws: how the rows' data open. -/
set_option linter.unusedSimpArgs false
set_option linter.unusedVariables false
set_option linter.unnecessarySimpa false
set_option maxRecDepth 20000
namespace Go.Proofs.YtcdocklbpfdmeaaDoor
open Go.RowKit Go.ChangeShapes Go.WideShapes Go.ChangeAt
section
variable {H : Type} {enc : TypeId × Value → H} {w : World} {base : Nat} {sp : Nat → Bool} {held : Bool}
end
end Go.Proofs.YtcdocklbpfdmeaaDoor

/- Collide's laws: what is kept where a variable's block turns; claims that came in; clashes that are the same. -/
set_option linter.unusedSimpArgs false
set_option linter.unusedVariables false
set_option linter.unnecessarySimpa false
set_option maxRecDepth 20000
namespace Go.Proofs.YtcdocklbpfdmeaaDoor
open Go.RowKit
/-- The element types that are never turned. -/
def ktT (t : TypeId) : Bool := t == 5 || t == 46 || t == 35 || t == 42
structure Kt (w w' : World) : Prop where
  size : w.heap.size ≤ w'.heap.size
  same : ∀ (g : Nat) (cs : Array Value) (t : TypeId) (fr : Nat × Nat), w.heap[g]? = some (.cells cs t fr) → ktT t = true → w'.heap[g]? = some (.cells cs t fr)
structure St (w w' : World) : Prop where
  size : w.heap.size = w'.heap.size
  same : ∀ (g : Nat) (cs : Array Value) (t : TypeId) (fr : Nat × Nat), w.heap[g]? = some (.cells cs t fr) → ktT t = true → w'.heap[g]? = some (.cells cs t fr)
theorem Kt.refl (w : World) : Kt w w := ⟨Nat.le_refl _, fun _ _ _ _ h _ => h⟩
theorem St.refl (w : World) : St w w := ⟨rfl, fun _ _ _ _ h _ => h⟩
theorem Kt.trans {a b c : World} (h : Kt a b) (k : Kt b c) : Kt a c := ⟨Nat.le_trans h.size k.size, fun g cs t fr h1 h2 => k.same _ _ _ _ (h.same _ _ _ _ h1 h2) h2⟩
theorem Kt.ofEx {w w' : World} (k : Ex w w') : Kt w w' := ⟨by obtain ⟨X, rfl⟩ := k; rw [wx_size]; omega, fun g cs t fr h _ => ex_block k h⟩
theorem Kt.ofSt {w w' : World} (k : St w w') : Kt w w' := ⟨Nat.le_of_eq k.size, k.same⟩
theorem Kt.allocR {u w : World} (h : Kt u w) (o : Obj) : Kt u (w.alloc o) := h.trans (Kt.ofEx (ex_alloc (ex_refl _) _))
theorem Kt.wxR {u w : World} (h : Kt u w) (X : More) : Kt u (wx w X) := h.trans (Kt.ofEx ⟨X, rfl⟩)
theorem Kt.appR {u w : World} {X : More} (h : Kt u (wx w X)) (Y : More) : Kt u (wx w (X.app Y)) := h.trans (Kt.ofEx (ex_app w X Y))
theorem alloc_heapT (w : World) (o : Obj) (k : Nat) : (w.alloc o).heap[k]? = if k < w.heap.size then w.heap[k]? else if k = w.heap.size then some o else none := by
  split
  · have h := ‹k < w.heap.size›
    obtain ⟨X, hX⟩ := ex_alloc (ex_refl w) o
    rw [hX, wx_heap w X k h]
  · split
    · rename_i h; subst h; exact heap_alloc_new w o
    · rename_i h1 h2
      refine Array.getElem?_eq_none ?_
      have : (w.alloc o).heap.size = w.heap.size + 1 := by simp [go_sem]
      omega
theorem wx_heapT (w : World) (X : More) (k : Nat) : (wx w X).heap[k]? = if k < w.heap.size then w.heap[k]? else X.blocks[k - w.heap.size]? := by
  split
  · exact wx_heap w X k ‹_›
  · rename_i h
    have := wx_heap_more w X (k - w.heap.size)
    rw [show w.heap.size + (k - w.heap.size) = k by omega] at this
    exact this
theorem St.wx {u w : World} (h : St u w) (X : More) : St (wx u X) (wx w X) := by
  refine ⟨by rw [wx_size, wx_size, h.size], fun g cs t fr h1 h2 => ?_⟩
  rw [wx_heapT] at h1 ⊢
  rw [← h.size]
  split
  · rename_i hg; rw [if_pos hg] at h1; exact h.same _ _ _ _ h1 h2
  · rename_i hg; rw [if_neg hg] at h1; exact h1
theorem St.alloc {u w : World} (h : St u w) (o : Obj) : St (u.alloc o) (w.alloc o) := by
  have h1 : (u.alloc o).heap.size = u.heap.size + 1 := by simp [go_sem]
  have h2 : (w.alloc o).heap.size = w.heap.size + 1 := by simp [go_sem]
  refine ⟨by rw [h1, h2, h.size], fun g cs t fr h3 h4 => ?_⟩
  rw [alloc_heapT] at h3 ⊢
  rw [← h.size]
  split
  · rename_i hg; rw [if_pos hg] at h3; exact h.same _ _ _ _ h3 h4
  · rename_i hg; rw [if_neg hg] at h3; exact h3
theorem St.turn {u w : World} {cs cs' : Array Value} {t : TypeId} {fr fr' : Nat × Nat} (h : St u w) (ht : ktT t = false) : St (u.alloc (.cells cs t fr)) (w.alloc (.cells cs' t fr')) := by
  have h1 : ∀ o, (u.alloc o).heap.size = u.heap.size + 1 := fun o => by simp [go_sem]
  have h2 : ∀ o, (w.alloc o).heap.size = w.heap.size + 1 := fun o => by simp [go_sem]
  refine ⟨by rw [h1, h2, h.size], fun g cs2 t2 fr2 h3 h4 => ?_⟩
  rw [alloc_heapT] at h3 ⊢
  rw [← h.size]
  split
  · rename_i hg; rw [if_pos hg] at h3; exact h.same _ _ _ _ h3 h4
  · rename_i hg
    rw [if_neg hg] at h3
    split at h3
    · cases h3; rw [ht] at h4; cases h4
    · cases h3
theorem OwnU.kt {w w' : World} {v : Value} {l : List UInt8} (h : OwnU w v l) (k : Kt w w') : OwnU w' v l := by
  refine ⟨h.1, ?_⟩
  rcases h.2 with h2 | ⟨g, cap, cur, h1, h2, h3, h4⟩
  · exact Or.inl h2
  · exact Or.inr ⟨g, cap, cur, h1, h2, k.same _ _ _ _ h3 (by decide), h4⟩
theorem owns_kt {w w' : World} {Z n s : Nat} {t : TypeId} {v : Value} {vs : List Value} (h : w.ownsRow Z t s v n vs) (ht : ktT t = true) (k : Kt w w') : w'.ownsRow Z t s v n vs := by
  refine ⟨h.1, ?_⟩
  rcases h.2 with h2 | ⟨g, cap, cur, h1, h2, h3, h4⟩
  · exact Or.inl h2
  · exact Or.inr ⟨g, cap, cur, h1, h2, k.same _ _ _ _ h3 ht, h4⟩
theorem OwnD.kt {w w' : World} {Z : Nat} {v : Value} {l : List Dg} (h : OwnD w Z v l) (k : Kt w w') : OwnD w' Z v l := owns_kt h (by decide) k
theorem OwnLs.kt {w w' : World} {Z : Nat} {v : Value} {l : List (List UInt8)} (h : OwnLs w Z v l) (k : Kt w w') : OwnLs w' Z v l := by
  obtain ⟨vs, h1, h2, h3⟩ := h.out
  exact ⟨vs, h1, owns_kt h2 (by decide) k, fun i hi b hb => (h3 i hi b hb).kt k⟩
theorem ClS.kt {w w' : World} {sa sb : Value} {c : Cl} (h : ClS w sa sb c) (k : Kt w w') : ClS w' sa sb c := by
  cases c with
  | none => exact h
  | some x => exact ⟨h.1.kt k, h.2.kt k⟩
theorem sameClash_o {sa sb sc sd : Value} {o : Cl} {w : World} (h1 : ClS w sa sb o) (h2 : ClS w sc sd o) :
    Calls Tryd.prog 34 #[.agg #[sa, sb], .agg #[sc, sd]] w (Post w (.bool true)) := by
  cases o with
  | none =>
    obtain ⟨rfl, rfl⟩ := h1
    obtain ⟨rfl, rfl⟩ := h2
    have := sameClash_any (a := ([], [])) (b := ([], [])) (slt_nil w) (slt_nil w) (slt_nil w) (slt_nil w)
    rwa [decide_eq_true rfl] at this
  | some x =>
    have := sameClash_any (a := x) (b := x) h1.1.slt h1.2.slt h2.1.slt h2.2.slt
    rwa [decide_eq_true rfl] at this
theorem cellsN_exF {w w' : World} {b o n : Nat} {cs : Array Value} (h : cellsN w b o n = some cs) (hb : b < w.heap.size) (k : Ex w w') : cellsN w' b o n = some cs := by
  obtain ⟨X, rfl⟩ := k
  obtain ⟨h1, h2⟩ := cellsN_some.1 h
  refine cellsN_some.2 ⟨h1, fun j hj => ?_⟩
  rw [wx_cell w X _ hb]
  exact h2 j hj
/-- A slice of claims that came in. -/
structure SlCm (w : World) (a : Option Addr) (n : Nat) : Prop where
  out : n = 0 ∨ ∃ g off, a = some ⟨g, off, none⟩ ∧ g < w.heap.size ∧ ∀ i, i < n → ∃ (j : Int) (bv : Value) (b : List UInt8) (pa : Option Addr) (path : List Dg) (pc : Nat), cellsN w g (off + i * 3) 3 = some #[I j, bv, .slice pa path.length pc] ∧ SlT w bv b ∧ path.length ≤ pc ∧ pc ≤ maxLen ∧ (pa = none → pc = 0) ∧ SlD w pa path
theorem SlCm.ex {w w' : World} {a : Option Addr} {n : Nat} (h : SlCm w a n) (k : Ex w w') : SlCm w' a n := by
  rcases h.out with rfl | ⟨g, off, rfl, hg, hi⟩
  · exact ⟨Or.inl rfl⟩
  · refine ⟨Or.inr ⟨g, off, rfl, by obtain ⟨X, rfl⟩ := k; rw [wx_size]; omega, fun i h => ?_⟩⟩
    obtain ⟨j, bv, b, pa, path, pc, h1, h2, h3, h4, h5, h6⟩ := hi i h
    exact ⟨j, bv, b, pa, path, pc, cellsN_exF h1 hg k, h2.ex k, h3, h4, h5, h6.ex k⟩
end Go.Proofs.YtcdocklbpfdmeaaDoor

/- CollideLeaf: what an accepted claim tells; history.Leaf of whatever bytes. -/
set_option linter.unusedSimpArgs false
set_option linter.unusedVariables false
set_option linter.unnecessarySimpa false
set_option maxRecDepth 20000
namespace Go.Proofs.YtcdocklbpfdmeaaDoor
open Go.RowKit
end Go.Proofs.YtcdocklbpfdmeaaDoor
