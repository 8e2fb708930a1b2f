import Derived.Test.YtcdocklbpfdmeaaDoorMCoD
import Derived.Test.YtcdocklbpfdmeaaDoorMChk

/- Collide: the document's roots and tops; Root and Crown of both texts. -/
set_option linter.unusedSimpArgs false
set_option linter.unusedVariables false
set_option linter.unnecessarySimpa false
set_option maxRecDepth 20000
namespace Go.Proofs.YtcdocklbpfdmeaaDoor
open Go.RowKit
end Go.Proofs.YtcdocklbpfdmeaaDoor

/- Collide: the walker in memory; what a call keeps that may turn the walker's block. -/
set_option linter.unusedSimpArgs false
set_option linter.unusedVariables false
set_option linter.unnecessarySimpa false
set_option maxRecDepth 20000
namespace Go.Proofs.YtcdocklbpfdmeaaDoor
open Go.RowKit
theorem setCellF_heap {w : World} {b o : Nat} (v : Value) {k : Nat} (h : k ≠ b) : (w.setCell ⟨b, o, none⟩ v).heap[k]? = w.heap[k]? := by
  simp only [World.setCell, Array.getElem?_modify]
  rw [if_neg (by simpa using Ne.symm h)]
theorem setCellF_block {w : World} {b o : Nat} {cs : Array Value} {t : TypeId} {fr : Nat × Nat} (v : Value) (h : w.heap[b]? = some (.cells cs t fr)) : (w.setCell ⟨b, o, none⟩ v).heap[b]? = some (.cells (cs.setIfInBounds o v) t fr) := by
  simp [World.setCell, Array.getElem?_modify, h]
/-- All but the blocks of a set lies as it lay. -/
structure Frm (F : Nat → Prop) (w w' : World) : Prop where
  os : w'.os = w.os
  tape : w'.tape = w.tape
  output : w'.output = w.output
  size : w.heap.size ≤ w'.heap.size
  same : ∀ b, b < w.heap.size → ¬ F b → w'.heap[b]? = w.heap[b]?
theorem Frm.refl (F : Nat → Prop) (w : World) : Frm F w w := ⟨rfl, rfl, rfl, Nat.le_refl _, fun _ _ _ => rfl⟩
theorem Frm.trans {F : Nat → Prop} {a b c : World} (h : Frm F a b) (k : Frm F b c) : Frm F a c :=
  ⟨k.os.trans h.os, k.tape.trans h.tape, k.output.trans h.output, Nat.le_trans h.size k.size, fun i hi hf => (k.same i (Nat.lt_of_lt_of_le hi h.size) hf).trans (h.same i hi hf)⟩
theorem Frm.ex {F : Nat → Prop} {w w' : World} (k : Ex w w') : Frm F w w' := by
  have hb := ex_below k
  exact ⟨hb.os, hb.tape, hb.output, hb.size, fun b h1 _ => hb.block b h1⟩
theorem Frm.mono {F G : Nat → Prop} {w w' : World} (h : Frm F w w') (k : ∀ b, F b → G b) : Frm G w w' := ⟨h.os, h.tape, h.output, h.size, fun b hb hf => h.same b hb fun e => hf (k b e)⟩
theorem Frm.set {F : Nat → Prop} {w w' : World} (h : Frm F w w') {b : Nat} (hb : F b) (o : Nat) (v : Value) : Frm F w (w'.setCell ⟨b, o, none⟩ v) :=
  h.trans ⟨rfl, rfl, rfl, by simp [World.setCell], fun k _ hk => setCellF_heap v (fun e => hk (by rw [e]; exact hb))⟩
theorem setCells_os (b : Nat) : ∀ (vs : List Value) (o : Nat) (w : World), (w.setCells b o vs).os = w.os ∧ (w.setCells b o vs).tape = w.tape ∧ (w.setCells b o vs).output = w.output
  | [], _, _ => ⟨rfl, rfl, rfl⟩
  | v :: r, o, w => by unfold World.setCells; exact setCells_os b r _ _
theorem Frm.sets {F : Nat → Prop} {w w' : World} (h : Frm F w w') {b : Nat} (hb : F b) (o : Nat) (vs : List Value) : Frm F w (w'.setCells b o vs) := by
  obtain ⟨h1, h2, h3⟩ := setCells_os b vs o w'
  exact h.trans ⟨h1, h2, h3, by rw [setCells_size]; exact Nat.le_refl _, fun k _ hk => setCells_heap _ _ _ _ _ (fun e => hk (by rw [e]; exact hb))⟩
theorem Frm.alloc {F : Nat → Prop} {w w' : World} (h : Frm F w w') (o : Obj) : Frm F w (w'.alloc o) := h.trans (Frm.ex (ex_alloc (ex_refl _) _))
theorem Frm.below {F : Nat → Prop} {w w' : World} (h : Frm F w w') {Z : Nat} (hZ : Z ≤ w.heap.size) (ho : ∀ b, F b → Z ≤ b) : Below Z w w' :=
  ⟨h.os, h.tape, h.output, h.size, fun b hb => h.same b (by omega) fun e => by have := ho b e; omega⟩
/-- All but one block is kept. -/
abbrev FrP (p : Nat) (w w' : World) : Prop := Frm (fun b => b = p) w w'
theorem Frm.cell {F : Nat → Prop} {w w' : World} (h : Frm F w w') {a : Addr} (hb : a.block < w.heap.size) (hf : ¬ F a.block) : w'.cell? a = w.cell? a := by
  simp only [World.cell?, h.same a.block hb hf]
theorem cell_lt {w : World} {a : Addr} {v : Value} (h : w.cell? a = some v) : a.block < w.heap.size := by
  unfold World.cell? at h
  by_cases hb : a.block < w.heap.size
  · exact hb
  · rw [Array.getElem?_eq_none (by omega)] at h; cases h
/-- No byte stands in the block. -/
structure NoB (w : World) (p : Nat) : Prop where
  out : ∀ o b, w.cell? ⟨p, o, none⟩ ≠ some (B b)
theorem SlB.frm {w w' : World} {a : Option Addr} {n : Nat} {f : Nat → UInt8} {p : Nat} (h : SlB w a n f) (hn : NoB w p) (k : FrP p w w') : SlB w' a n f := by
  rcases h.out with h0 | ⟨g, off, h1, hg, hc⟩
  · exact ⟨Or.inl h0⟩
  · refine ⟨Or.inr ⟨g, off, h1, Nat.lt_of_lt_of_le hg k.size, fun j hj => ?_⟩⟩
    rw [k.cell hg (fun e => ?_)]
    · exact hc j hj
    · have e : g = p := e
      subst e
      exact hn.out _ _ (hc j hj)
theorem SlL.frm {w w' : World} {a : Option Addr} {l : List UInt8} {p : Nat} (h : SlL w a l) (hn : NoB w p) (k : FrP p w w') : SlL w' a l := SlB.frm h hn k
theorem SlT.frm {w w' : World} {v : Value} {l : List UInt8} {p : Nat} (h : SlT w v l) (hn : NoB w p) (k : FrP p w w') : SlT w' v l := by
  obtain ⟨a, c, h1, h2, h3, h4, h5⟩ := h.out
  exact ⟨a, c, h1, h2, h3, h4, h5.frm hn k⟩
/-- No block of bytes among them. -/
structure NoU (w : World) (F : Nat → Prop) : Prop where
  out : ∀ b cs fr, F b → w.heap[b]? ≠ some (.cells cs 5 fr)
theorem OwnU.frm {w w' : World} {v : Value} {l : List UInt8} {F : Nat → Prop} (h : OwnU w v l) (hF : NoU w F) (k : Frm F w w') : OwnU w' v l := by
  refine ⟨h.1, ?_⟩
  rcases h.2 with h2 | ⟨g, cap, cur, h1, h2, h3, h4⟩
  · exact Or.inl h2
  · exact Or.inr ⟨g, cap, cur, h1, h2, (k.same g (Array.getElem?_eq_some_iff.1 h3).1 fun e => hF.out g _ _ e h3).trans h3, h4⟩
theorem nou_type {w : World} {p : Nat} {cs : Array Value} {t : TypeId} {fr : Nat × Nat} (h : w.heap[p]? = some (.cells cs t fr)) (ht : t ≠ 5) : NoU w (fun b => b = p) := ⟨fun b cs' fr' hb h' => by
  subst hb
  rw [h] at h'
  cases h'
  exact ht rfl⟩
def ClP (w : World) (p : Nat) (pv : Option Addr) : Cl → Prop
  | none => pv = none
  | some x => ∃ q sa sb, pv = some ⟨q, 0, none⟩ ∧ q ≠ p ∧ w.heap[q]? = some (.cells #[sa, sb] 37 (0, 0)) ∧ OwnU w sa x.1 ∧ OwnU w sb x.2
/-- The walker's block. -/
structure Wk (w : World) (p W : Nat) (c : Cl) : Prop where
  out : ∃ pv, w.heap[p]? = some (.cells #[I W, .pointer pv] 146 (0, 0)) ∧ ClP w p pv c
theorem Wk.lt {w : World} {p W : Nat} {c : Cl} (h : Wk w p W c) : p < w.heap.size := by
  obtain ⟨pv, h1, _⟩ := h.out
  exact (Array.getElem?_eq_some_iff.1 h1).1
theorem Wk.nou {w : World} {p W : Nat} {c : Cl} (h : Wk w p W c) : NoU w (fun b => b = p) := by
  obtain ⟨pv, h1, _⟩ := h.out
  exact nou_type h1 (by decide)
theorem Wk.width {w : World} {p W : Nat} {c : Cl} (h : Wk w p W c) : w.cell? ⟨p, 0, none⟩ = some (I W) := by
  obtain ⟨pv, h1, _⟩ := h.out
  rw [cell_of_row w p 0 _ _ _ h1]; rfl
theorem Wk.ex {w w' : World} {p W : Nat} {c : Cl} (h : Wk w p W c) (k : Ex w w') : Wk w' p W c := by
  obtain ⟨pv, h1, h2⟩ := h.out
  refine ⟨pv, ex_block k h1, ?_⟩
  cases c with
  | none => exact h2
  | some x =>
    obtain ⟨q, sa, sb, e1, e2, e3, e4, e5⟩ := h2
    exact ⟨q, sa, sb, e1, e2, ex_block k e3, e4.ex k, e5.ex k⟩
theorem Wk.new {w : World} (W : Nat) : Wk (w.alloc (.cells #[I W, .pointer none] 146)) w.heap.size W none := ⟨none, heap_alloc_new _ _, rfl⟩
theorem Wk.new' {w : World} {p : Nat} (W : Nat) (hp : p = w.heap.size) : Wk (w.alloc (.cells #[I W, .pointer none] 146)) p W none := by subst hp; exact Wk.new W
theorem Wk.none_cell {w : World} {p W : Nat} (h : Wk w p W none) : w.heap[p]? = some (.cells #[I W, .pointer none] 146 (0, 0)) := by
  obtain ⟨pv, h1, h2⟩ := h.out
  cases h2; exact h1
theorem Wk.some_cell {w : World} {p W : Nat} {x : List UInt8 × List UInt8} (h : Wk w p W (some x)) : ∃ q, w.heap[p]? = some (.cells #[I W, .pointer (some ⟨q, 0, none⟩)] 146 (0, 0)) := by
  obtain ⟨pv, h1, q, sa, sb, rfl, _⟩ := h.out
  exact ⟨q, h1⟩
/-- The clash is noted. -/
theorem Wk.note {w : World} {p W : Nat} (h : Wk w p W none) {q : Nat} {w' : World} {sa sb : Value} {A D : List UInt8} (k : Ex (w.setCell ⟨p, 1, none⟩ (.pointer (some ⟨q, 0, none⟩))) w') (hq : w.heap.size ≤ q)
    (hb : w'.heap[q]? = some (.cells #[sa, sb] 37 (0, 0))) (h1 : OwnU w sa A) (h2 : OwnU w sb D) : FrP p w w' ∧ Wk w' p W (some (A, D)) := by
  have hlt := h.lt
  have f1 : FrP p w (w.setCell ⟨p, 1, none⟩ (.pointer (some ⟨q, 0, none⟩))) := (Frm.refl (fun b => b = p) w).set (b := p) rfl 1 _
  have f2 : FrP p w w' := f1.trans (Frm.ex k)
  refine ⟨f2, some ⟨q, 0, none⟩, ?_, q, sa, sb, rfl, by omega, hb, h1.frm h.nou f2, h2.frm h.nou f2⟩
  refine ex_block k ?_
  rw [setCellF_block _ h.none_cell]
  rfl
theorem Wk.noteP {w P : World} {p W : Nat} (h : Wk w p W none) {q : Nat} {sa sb : Value} {A D : List UInt8} (k : Ex (w.setCell ⟨p, 1, none⟩ (.pointer (some ⟨q, 0, none⟩))) P) (hq : q = P.heap.size)
    (h1 : OwnU w sa A) (h2 : OwnU w sb D) : FrP p w (P.alloc (.cells #[sa, sb] 37)) ∧ Wk (P.alloc (.cells #[sa, sb] 37)) p W (some (A, D)) := by
  have hs := ex_size k
  have e : (w.setCell ⟨p, 1, none⟩ (.pointer (some ⟨q, 0, none⟩))).heap.size = w.heap.size := by simp [World.setCell]
  refine h.note (ex_alloc k _) (by omega) ?_ h1 h2
  subst hq
  exact heap_alloc_new _ _
theorem block_cellF {w : World} {b o : Nat} {cs : Array Value} {t : TypeId} {v : Value} (h : w.heap[b]? = some (.cells cs t (0, 0))) (hv : cs[o]? = some v) : w.cell? ⟨b, o, none⟩ = some v ∧ w.frozen? ⟨b, o, none⟩ = false :=
  ⟨by rw [cell_of_row w b o _ _ _ h]; exact hv, by simp [World.frozen?, h]⟩
/-- What a call of the walker leaves behind. -/
def PostK (p W : Nat) (w : World) (v : Value) (c : Cl) (e : Ending) (w' : World) : Prop := e = .returned v ∧ FrP p w w' ∧ Wk w' p W c
theorem postk_ex {p W : Nat} {w w' : World} {v : Value} {c : Cl} {e : Ending} (he : e = .returned v) (h : Wk w p W c) (k : Ex w w') : PostK p W w v c e w' := ⟨he, Frm.ex k, h.ex k⟩
/-! ### Classes of worlds -/
theorem wp_worldC {P : Program} {c : Code} {Q : Exit → Act → World → Prop} {a : Act} {w : World} (h : ∀ w8, w = w8 → c.wp P Q a w8) : c.wp P Q a w := h w rfl

/-- X where it holds what A holds, but for the blocks of a set; else A. -/
noncomputable def kp (A : World) (P : Nat → Prop) (X : World) : World := open Classical in if ∀ k, k < A.heap.size → ¬ P k → X.heap[k]? = A.heap[k]? then X else A
theorem kp_heap (A : World) (P : Nat → Prop) (X : World) {k : Nat} (h : k < A.heap.size) (h2 : ¬ P k) : (kp A P X).heap[k]? = A.heap[k]? := by
  unfold kp; split
  · rename_i h3; exact h3 k h h2
  · rfl
theorem kp_of {A X : World} {P : Nat → Prop} (h : ∀ k, k < A.heap.size → ¬ P k → X.heap[k]? = A.heap[k]?) : X = kp A P X := by
  unfold kp; rw [if_pos h]
noncomputable def kpFar (A : World) (P : Nat → Prop) (X : World) (a : Addr) : Option Value := (kp A P X).cell? a
noncomputable def kpFarN (A : World) (P : Nat → Prop) (X : World) (b i n : Nat) : Option (Array Value) := cellsN (kp A P X) b i n
open Classical in
@[go_sem high] theorem kp_cell (A : World) (P : Nat → Prop) (X : World) (b i : Nat) : (kp A P X).cell? ⟨b, i, none⟩ = if b < A.heap.size ∧ ¬ P b then A.cell? ⟨b, i, none⟩ else kpFar A P X ⟨b, i, none⟩ := by
  split
  · rename_i h; simp only [World.cell?, kp_heap A P X h.1 h.2]
  · rfl
open Classical in
@[go_sem high] theorem kp_cellsN (A : World) (P : Nat → Prop) (X : World) (b i n : Nat) : cellsN (kp A P X) b i n = if b < A.heap.size ∧ ¬ P b then cellsN A b i n else kpFarN A P X b i n := by
  split
  · rename_i h; exact cellsN_congr fun j _ => by simp only [World.cell?, kp_heap A P X h.1 h.2]
  · rfl
theorem kpF {A : World} {P : Nat → Prop} {X : World} (h : Frm P A X) : X = kp A P X := kp_of h.same
theorem Frm.wxR {F : Nat → Prop} {w w' : World} (h : Frm F w w') (X : More) : Frm F w (wx w' X) := h.trans (Frm.ex (ex_wx (ex_refl _) _))
theorem Frm.drewR {F : Nat → Prop} {w w' : World} (h : Frm F w w') : Frm F w w'.drew := h.trans (Frm.ex (ex_drew (ex_refl _)))
/-- What lies below the walker's block is there still. -/
theorem Frm.exA {A w w' : World} {p : Nat} (h : FrP p w w') (k : Ex A w) (hp : A.heap.size ≤ p) : Ex A w' := by
  have hb := ex_below k
  refine ex_of_below ⟨h.os.trans hb.os, h.tape.trans hb.tape, h.output.trans hb.output, Nat.le_trans hb.size h.size, fun b hlt => ?_⟩
  exact (h.same b (Nat.lt_of_lt_of_le hlt hb.size) (by omega)).trans (hb.block b hlt)
/-- No block of a kind that the walker holds. -/
structure NoK (w : World) (F : Nat → Prop) : Prop where
  out : ∀ b cs t fr, F b → w.heap[b]? = some (.cells cs t fr) → t ≠ 5 ∧ t ≠ 146 ∧ t ≠ 37
theorem Wk.frm {w w' : World} {p W : Nat} {c : Cl} {F : Nat → Prop} (h : Wk w p W c) (hF : NoK w F) (k : Frm F w w') : Wk w' p W c := by
  obtain ⟨pv, h1, h2⟩ := h.out
  have hu : NoU w F := ⟨fun b cs fr hb h' => (hF.out b cs _ fr hb h').1 rfl⟩
  refine ⟨pv, (k.same p (Array.getElem?_eq_some_iff.1 h1).1 fun e => (hF.out p _ _ _ e h1).2.1 rfl).trans h1, ?_⟩
  cases c with
  | none => exact h2
  | some x =>
    obtain ⟨q, sa, sb, e1, e2, e3, e4, e5⟩ := h2
    exact ⟨q, sa, sb, e1, e2, (k.same q (Array.getElem?_eq_some_iff.1 e3).1 fun e => (hF.out q _ _ _ e e3).2.2 rfl).trans e3, e4.frm hu k, e5.frm hu k⟩
theorem ClP.frm {w w' : World} {p : Nat} {pv : Option Addr} {c : Cl} {F : Nat → Prop} (h2 : ClP w p pv c) (hF : NoK w F) (k : Frm F w w') : ClP w' p pv c := by
  have hu : NoU w F := ⟨fun b cs fr hb h' => (hF.out b cs _ fr hb h').1 rfl⟩
  cases c with
  | none => exact h2
  | some x =>
    obtain ⟨q, sa, sb, e1, e2, e3, e4, e5⟩ := h2
    exact ⟨q, sa, sb, e1, e2, (k.same q (Array.getElem?_eq_some_iff.1 e3).1 fun e => (hF.out q _ _ _ e e3).2.2 rfl).trans e3, e4.frm hu k, e5.frm hu k⟩
theorem nok_type {w : World} {r : Nat} {cs : Array Value} {t : TypeId} {fr : Nat × Nat} (h : w.heap[r]? = some (.cells cs t fr)) (h1 : t ≠ 5) (h2 : t ≠ 146) (h3 : t ≠ 37) : NoK w (fun b => b = r) := ⟨fun b cs' t fr' hb h' => by
  subst hb
  rw [h] at h'
  cases h'
  exact ⟨h1, h2, h3⟩⟩
/-- A block of the call's own is turned in the midst. -/
theorem frm_turn (w : World) (o o' : Obj) (X : More) : Frm (fun b => b = w.heap.size) (wx (w.alloc o) X) (wx (w.alloc o') X) := by
  refine ⟨rfl, rfl, rfl, by simp [wx, World.size_alloc], fun b hb hn => ?_⟩
  have hs1 : (w.alloc o).heap.size = w.heap.size + 1 := World.size_alloc _ _
  have hs2 : (w.alloc o').heap.size = w.heap.size + 1 := World.size_alloc _ _
  by_cases h : b < w.heap.size
  · rw [wx_heap _ _ _ (by omega), wx_heap _ _ _ (by omega)]
    show (w.heap.push o')[b]? = (w.heap.push o)[b]?
    rw [Array.getElem?_push, Array.getElem?_push, if_neg hn, if_neg hn]
  · have e1 := wx_heap_more (w.alloc o) X (b - (w.heap.size + 1))
    have e2 := wx_heap_more (w.alloc o') X (b - (w.heap.size + 1))
    have hn : ¬ b = w.heap.size := hn
    rw [hs1, show w.heap.size + 1 + (b - (w.heap.size + 1)) = b by omega] at e1
    rw [hs2, show w.heap.size + 1 + (b - (w.heap.size + 1)) = b by omega] at e2
    rw [e1, e2]
theorem turn_block (w : World) (o : Obj) (X : More) : (wx (w.alloc o) X).heap[w.heap.size]? = some o := ex_block (ex_wx (ex_refl _) X) (heap_alloc_new w o)
/-- The clash that is handed back. -/
def ClV (w : World) (pv : Option Addr) : Cl → Prop
  | none => pv = none
  | some x => ∃ q sa sb, pv = some ⟨q, 0, none⟩ ∧ w.heap[q]? = some (.cells #[sa, sb] 37 (0, 0)) ∧ OwnU w sa x.1 ∧ OwnU w sb x.2
theorem ClP.clv {w : World} {p : Nat} {pv : Option Addr} {c : Cl} (h : ClP w p pv c) : ClV w pv c := by
  cases c with
  | none => exact h
  | some x =>
    obtain ⟨q, sa, sb, e1, e2, e3, e4, e5⟩ := h
    exact ⟨q, sa, sb, e1, e3, e4, e5⟩
theorem nok_id {w : World} {r : Nat} {cs : Array Value} {fr : Nat × Nat} (h : w.heap[r]? = some (.cells cs 46 fr)) : NoK w (fun b => b = r) := ⟨fun b cs' t fr' hb h' => by
  subst hb
  rw [h] at h'
  cases h'
  exact ⟨by decide, by decide, by decide⟩⟩
theorem row_frm {p r : Nat} {A w5 : World} {cs : Array Value} {t : TypeId} {fr : Nat × Nat} (h : A.heap[r]? = some (.cells cs t fr)) (k : FrP p A w5) (hne : r ≠ p) : w5.heap[r]? = some (.cells cs t fr) :=
  (k.same r (Array.getElem?_eq_some_iff.1 h).1 hne).trans h
theorem frm_sets {w : World} {r : Nat} (o : Nat) (vs : List Value) : Frm (fun b => b = r) w (w.setCells r o vs) := (Frm.refl (fun b => b = r) w).sets (b := r) rfl o vs
theorem block_cellsF {w : World} {b n : Nat} {cs : Array Value} {t : TypeId} (h : w.heap[b]? = some (.cells cs t (0, 0))) (hn : cs.size = n) : cellsN w b 0 n = some cs ∧ frozenN w b 0 n = false ∧ b < w.heap.size := by
  subst hn
  refine ⟨cellsN_some.2 ⟨rfl, fun j hj => ?_⟩, frozenN_false.2 fun j hj => ?_, (Array.getElem?_eq_some_iff.1 h).1⟩
  · rw [Nat.zero_add, cell_of_row w b j cs t (0, 0) h]
  · simp [World.frozen?, h]
/-- The row that a call hands back is stored. -/
theorem k_end {p W r : Nat} {w A w5 : World} {c : Cl} {g : Nat → UInt8} (hrw : w.heap.size ≤ r) (hr : A.heap[r]? = some (.cells (rowB 32 g) 46 (0, 0))) (kw : Ex w A) (F5 : FrP p A w5) (K5 : Wk w5 p W c) (hne : r ≠ p) :
    (cellsN w5 r 0 32 = some (rowB 32 g) ∧ frozenN w5 r 0 32 = false ∧ r < w5.heap.size) ∧
    ∀ x : Dg, cellsN (w5.setCells r 0 (rowB 32 (dF x)).toList) r 0 32 = some (rowB 32 (dF x)) ∧ FrP p w (w5.setCells r 0 (rowB 32 (dF x)).toList) ∧ Wk (w5.setCells r 0 (rowB 32 (dF x)).toList) p W c := by
  have h5 := row_frm hr F5 hne
  refine ⟨block_cellsF h5 (by simp), fun x => ⟨?_, ?_, K5.frm (nok_id h5) (frm_sets 0 _)⟩⟩
  · have h6 := setCells_block r 46 (0, 0) (rowB 32 (dF x)).toList 0 w5 _ h5
    rw [spliceA_all _ _ (by simp)] at h6
    exact (block_cellsF h6 (by simp)).1
  · have f := (Frm.ex kw : FrP p w A).trans F5
    refine ⟨?_, ?_, ?_, ?_, fun b hb hn => ?_⟩
    · exact (frm_sets (r := r) 0 _).os.trans f.os
    · exact (frm_sets (r := r) 0 _).tape.trans f.tape
    · exact (frm_sets (r := r) 0 _).output.trans f.output
    · exact Nat.le_trans f.size (frm_sets (r := r) 0 _).size
    · exact ((frm_sets (r := r) 0 _).same b (Nat.lt_of_lt_of_le hb f.size) (by omega)).trans (f.same b hb hn)
end Go.Proofs.YtcdocklbpfdmeaaDoor
