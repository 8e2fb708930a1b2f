import Derived.Test.YtcdocklbpfdmeaaDoorMCoP
import Derived.Test.YtcdocklbpfdmeaaDoorMForkH

/- Collide: grow. -/
set_option linter.unusedSimpArgs false
set_option linter.unusedVariables false
set_option linter.unnecessarySimpa false
set_option maxRecDepth 20000
namespace Go.Proofs.YtcdocklbpfdmeaaDoor
open Go.RowKit
theorem Frm.allocR {F : Nat → Prop} {w w' : World} (h : Frm F w w') (o : Obj) : Frm F w (w'.alloc o) := h.alloc o
theorem Frm.setsNew {F : Nat → Prop} {w w' : World} (h : Frm F w w') {b : Nat} (hb : w.heap.size ≤ b) (o : Nat) (vs : List Value) : Frm F w (w'.setCells b o vs) := by
  obtain ⟨h1, h2, h3⟩ := setCells_os b vs o w'
  exact ⟨h1.trans h.os, h2.trans h.tape, h3.trans h.output, by rw [setCells_size]; exact h.size, fun k hk hf => (setCells_heap _ _ _ _ _ (by omega)).trans (h.same k hk hf)⟩
/-- The block is a row of digests. -/
structure IdB (w : World) (r : Nat) : Prop where
  out : ∃ cs fr, w.heap[r]? = some (.cells cs 46 fr)
theorem IdB.ex {w w' : World} {r : Nat} (h : IdB w r) (k : Ex w w') : IdB w' r := by
  obtain ⟨cs, fr, h⟩ := h.out
  exact ⟨cs, fr, ex_block k h⟩
theorem IdB.allocR {w : World} {r : Nat} (h : IdB w r) (o : Obj) : IdB (w.alloc o) r := h.ex (ex_alloc (ex_refl _) _)
theorem IdB.wxR {w : World} {r : Nat} (h : IdB w r) (X : More) : IdB (wx w X) r := h.ex ⟨X, rfl⟩
theorem IdB.drewR {w : World} {r : Nat} (h : IdB w r) : IdB w.drew r := h.ex (ex_drew (ex_refl _))
theorem IdB.new (w : World) (cs : Array Value) : IdB (w.alloc (.cells cs 46)) w.heap.size := ⟨cs, (0, 0), heap_alloc_new _ _⟩
theorem IdB.setsR {w : World} {r : Nat} (h : IdB w r) (b o : Nat) (vs : List Value) : IdB (w.setCells b o vs) r := by
  obtain ⟨cs, fr, h⟩ := h.out
  by_cases hb : r = b
  · subst hb
    exact ⟨_, fr, setCells_block r _ fr vs o w _ h⟩
  · exact ⟨cs, fr, (setCells_heap _ _ _ _ _ hb).trans h⟩
theorem IdB.frm {w w' : World} {r p : Nat} (h : IdB w r) (k : FrP p w w') (hn : r ≠ p) : IdB w' r := by
  obtain ⟨cs, fr, h⟩ := h.out
  exact ⟨cs, fr, row_frm h k hn⟩
theorem Wk.allocR {w : World} {p W : Nat} {c : Cl} (h : Wk w p W c) (o : Obj) : Wk (w.alloc o) p W c := h.ex (ex_alloc (ex_refl _) _)
theorem Wk.wxR {w : World} {p W : Nat} {c : Cl} (h : Wk w p W c) (X : More) : Wk (wx w X) p W c := h.ex ⟨X, rfl⟩
theorem Wk.drewR {w : World} {p W : Nat} {c : Cl} (h : Wk w p W c) : Wk w.drew p W c := h.ex (ex_drew (ex_refl _))
theorem Wk.setsR {w : World} {p W : Nat} {c : Cl} {r : Nat} (h : Wk w p W c) (hr : IdB w r) (o : Nat) (vs : List Value) : Wk (w.setCells r o vs) p W c := by
  obtain ⟨cs, fr, hr⟩ := hr.out
  exact h.frm (nok_id hr) (frm_sets o vs)
theorem IdB.new' {w : World} {r : Nat} {cs : Array Value} (h : r = w.heap.size) : IdB (w.alloc (.cells cs 46)) r := by subst h; exact IdB.new _ _
def setsN (w : World) (b r n : Nat) (vs : List Value) : Option (Array Value) := cellsN (w.setCells b 0 vs) r 0 n
theorem setCells_cell (b : Nat) : ∀ (vs : List Value) (o : Nat) (w : World) (j : Nat), (w.cell? ⟨b, j, none⟩).isSome = true → (w.setCells b o vs).cell? ⟨b, j, none⟩ = if o ≤ j ∧ j < o + vs.length then vs[j - o]? else w.cell? ⟨b, j, none⟩ := by
  intro vs o w j hj
  have hb : ∃ cs t fr, w.heap[b]? = some (.cells cs t fr) ∧ j < cs.size := by
    unfold World.cell? at hj
    cases hh : w.heap[b]? with
    | none => rw [hh] at hj; cases hj
    | some ob =>
      rw [hh] at hj
      cases ob with
      | cells cs t fr =>
        refine ⟨cs, t, fr, rfl, ?_⟩
        simpa using hj
      | _ => cases hj
  obtain ⟨cs, t, fr, hb, hjs⟩ := hb
  rw [cell_of_row _ b j _ _ _ (setCells_block b t fr vs o w cs hb), cell_of_row w b j _ _ _ hb, spliceA_get]
  by_cases h : o ≤ j ∧ j < o + vs.length
  · rw [if_pos ⟨h.1, h.2, hjs⟩, if_pos h]
  · rw [if_neg (by rintro ⟨h1, h2, _⟩; exact h ⟨h1, h2⟩), if_neg h]
@[go_sem low] theorem cellsN_setsR (w : World) (b r n : Nat) (vs : List Value) : cellsN (w.setCells b 0 vs) r 0 n = if b = r then (if ((cellsN w r 0 n).isSome && vs.length == n) = true then some vs.toArray else setsN w b r n vs) else cellsN w r 0 n := by
  by_cases hb : b = r
  · subst hb
    rw [if_pos rfl]
    split
    · rename_i h
      rw [Bool.and_eq_true, beq_iff_eq] at h
      obtain ⟨h1, h2⟩ := h
      obtain ⟨cs, hcs⟩ := Option.isSome_iff_exists.1 h1
      obtain ⟨e1, e2⟩ := cellsN_some.1 hcs
      refine cellsN_some.2 ⟨by simpa using h2, fun j hj => ?_⟩
      have e3 := e2 j hj
      rw [Nat.zero_add] at e3 ⊢
      rw [setCells_cell b vs 0 w j (by rw [e3, Array.getElem?_eq_getElem (by omega)]; rfl), if_pos ⟨Nat.zero_le _, by omega⟩]
      simp
    · rfl
  · rw [if_neg hb]
    exact cellsN_congr fun j _ => by simp only [World.cell?, setCells_heap _ _ _ _ _ (Ne.symm hb)]
theorem frozen_set (w : World) (a : Addr) (v : Value) (c : Addr) : (w.setCell a v).frozen? c = w.frozen? c := by
  simp only [World.frozen?, World.setCell, Array.getElem?_modify]
  by_cases h : a.block = c.block
  · rw [if_pos h]
    cases w.heap[c.block]? with
    | none => rfl
    | some ob => cases ob <;> rfl
  · rw [if_neg h]
theorem frozen_sets (b : Nat) : ∀ (vs : List Value) (o : Nat) (w : World) (c : Addr), (w.setCells b o vs).frozen? c = w.frozen? c
  | [], _, _, _ => rfl
  | v :: r, o, w, c => by unfold World.setCells; rw [frozen_sets b r, frozen_set]
@[go_sem low] theorem frozenN_setsR (w : World) (b o : Nat) (vs : List Value) (r i n : Nat) : frozenN (w.setCells b o vs) r i n = frozenN w r i n := frozenN_congr fun j _ => frozen_sets b vs o w _
/-- X where it holds what A holds, but for a set of blocks, one of which keeps its first cell; else A. -/
noncomputable def kq2 (A : World) (p : Nat) (P : Nat → Prop) (X : World) : World := open Classical in if (∀ k, k < A.heap.size → ¬ P k → X.heap[k]? = A.heap[k]?) ∧ X.cell? ⟨p, 0, none⟩ = A.cell? ⟨p, 0, none⟩ then X else A
theorem kq2_heap (A : World) (p : Nat) (P : Nat → Prop) (X : World) {k : Nat} (h : k < A.heap.size) (h2 : ¬ P k) : (kq2 A p P X).heap[k]? = A.heap[k]? := by
  unfold kq2; split
  · rename_i h3; exact h3.1 k h h2
  · rfl
theorem kq2_zero (A : World) (p : Nat) (P : Nat → Prop) (X : World) : (kq2 A p P X).cell? ⟨p, 0, none⟩ = A.cell? ⟨p, 0, none⟩ := by
  unfold kq2; split
  · rename_i h3; exact h3.2
  · rfl
theorem kq2_of {A X : World} {p : Nat} {P : Nat → Prop} (h : ∀ k, k < A.heap.size → ¬ P k → X.heap[k]? = A.heap[k]?) (hc : X.cell? ⟨p, 0, none⟩ = A.cell? ⟨p, 0, none⟩) : X = kq2 A p P X := by
  unfold kq2; rw [if_pos ⟨h, hc⟩]
theorem kq2F {A X : World} {p : Nat} {P : Nat → Prop} (h : Frm P A X) (hc : X.cell? ⟨p, 0, none⟩ = A.cell? ⟨p, 0, none⟩) : X = kq2 A p P X := kq2_of h.same hc
noncomputable def kq2Far (A : World) (p : Nat) (P : Nat → Prop) (X : World) (a : Addr) : Option Value := (kq2 A p P X).cell? a
noncomputable def kq2FarN (A : World) (p : Nat) (P : Nat → Prop) (X : World) (b i n : Nat) : Option (Array Value) := cellsN (kq2 A p P X) b i n
open Classical in
@[go_sem high] theorem kq2_cell (A : World) (p : Nat) (P : Nat → Prop) (X : World) (b i : Nat) : (kq2 A p P X).cell? ⟨b, i, none⟩ = if b < A.heap.size ∧ (¬ P b ∨ (b = p ∧ i = 0)) then A.cell? ⟨b, i, none⟩ else kq2Far A p P X ⟨b, i, none⟩ := by
  split
  · rename_i h
    rcases h with ⟨h1, h2 | ⟨rfl, rfl⟩⟩
    · simp only [World.cell?, kq2_heap A p P X h1 h2]
    · exact kq2_zero A _ P X
  · rfl
open Classical in
@[go_sem high] theorem kq2_cellsN (A : World) (p : Nat) (P : Nat → Prop) (X : World) (b i n : Nat) : cellsN (kq2 A p P X) b i n = if b < A.heap.size ∧ ¬ P b then cellsN A b i n else kq2FarN A p P X b i n := by
  split
  · rename_i h; exact cellsN_congr fun j _ => by simp only [World.cell?, kq2_heap A p P X h.1 h.2]
  · rfl
structure WkE (w : World) (p W : Nat) : Prop where
  out : ∃ c, Wk w p W c
theorem WkE.of {w : World} {p W : Nat} {c : Cl} (h : Wk w p W c) : WkE w p W := ⟨c, h⟩
theorem WkE.allocR {w : World} {p W : Nat} (h : WkE w p W) (o : Obj) : WkE (w.alloc o) p W := by obtain ⟨c, h⟩ := h.out; exact ⟨c, h.allocR o⟩
theorem WkE.wxR {w : World} {p W : Nat} (h : WkE w p W) (X : More) : WkE (wx w X) p W := by obtain ⟨c, h⟩ := h.out; exact ⟨c, h.wxR X⟩
theorem WkE.drewR {w : World} {p W : Nat} (h : WkE w p W) : WkE w.drew p W := by obtain ⟨c, h⟩ := h.out; exact ⟨c, h.drewR⟩
theorem WkE.setsR {w : World} {p W r : Nat} (h : WkE w p W) (hr : IdB w r) (o : Nat) (vs : List Value) : WkE (w.setCells r o vs) p W := by obtain ⟨c, h⟩ := h.out; exact ⟨c, h.setsR hr o vs⟩
theorem wk_zeroE {w w' : World} {p W : Nat} {c : Cl} (h : Wk w p W c) (h' : WkE w' p W) : w'.cell? ⟨p, 0, none⟩ = w.cell? ⟨p, 0, none⟩ := by
  obtain ⟨c', h'⟩ := h'.out
  exact h'.width.trans h.width.symm
end Go.Proofs.YtcdocklbpfdmeaaDoor
