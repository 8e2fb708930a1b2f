import Derived.Test.YtcdocklbpfdmeaaDoorMSeqH
import Derived.Test.YtcdocklbpfdmeaaDoorMForkJ
import Derived.Test.YtcdocklbpfdmeaaDoorMCoP

/- A region that draws its order, over whatever is known of the worlds between, where up to three things that make may come up at once: a tree of orders. Over whatever program. -/
set_option linter.unusedSimpArgs false
set_option linter.unusedVariables false
set_option maxRecDepth 20000
namespace Go.Proofs.YtcdocklbpfdmeaaDoor
open Go.RowKit
section
variable {P : Program} {ops : Array Oper} {Q : Exit → Act → World → Prop} {md : Region.Mode}
def wpForkK (P : Program) (ops : Array Oper) (Q : Exit → Act → World → Prop) (H : World → Prop) : FjO → Act → World → Prop
  | .done, a, w => Q .normal a w
  | .look o r, a, w => if Region.wanted o (yielded ops a.tmps) then o.quiet P a H (fun a' => wpForkK P ops Q H r a' w) else wpForkK P ops Q H r (a.put o.dst undef) w
  | .eff o r, a, w => effH P ops Q H o (wpForkK P ops Q H r) a w
  | .fork o x p y, a, w => effH P ops Q H o (wpForkK P ops Q H x) a w ∧ effH P ops Q H p (wpForkK P ops Q H y) a w
  | .three o x p y q z, a, w => effH P ops Q H o (wpForkK P ops Q H x) a w ∧ effH P ops Q H p (wpForkK P ops Q H y) a w ∧ effH P ops Q H q (wpForkK P ops Q H z) a w
theorem wpForkK_look {H : World → Prop} {o : Oper} {r : FjO} {a : Act} {w : World} (h : wpQuiet P ops H (fun a' => wpForkK P ops Q H r a' w) [o] a) : wpForkK P ops Q H (.look o r) a w := h
theorem wpForkK_eff {H : World → Prop} {o : Oper} {r : FjO} {a : Act} {w : World} (h : effH P ops Q H o (wpForkK P ops Q H r) a w) : wpForkK P ops Q H (.eff o r) a w := h
theorem wpForkK_fork {H : World → Prop} {o p : Oper} {x y : FjO} {a : Act} {w : World} (h : effH P ops Q H o (wpForkK P ops Q H x) a w) (k : effH P ops Q H p (wpForkK P ops Q H y) a w) : wpForkK P ops Q H (.fork o x p y) a w := ⟨h, k⟩
theorem wpForkK_three {H : World → Prop} {o p q : Oper} {x y z : FjO} {a : Act} {w : World} (h : effH P ops Q H o (wpForkK P ops Q H x) a w) (k : effH P ops Q H p (wpForkK P ops Q H y) a w) (m : effH P ops Q H q (wpForkK P ops Q H z) a w) : wpForkK P ops Q H (.three o x p y q z) a w := ⟨h, k, m⟩
theorem wpForkK_nil {H : World → Prop} {a : Act} {w : World} (h : Q .normal a w) : wpForkK P ops Q H .done a w := h
theorem wpAnyH_forkK {H : World → Prop} {l : List Oper} (hl : l.toArray = ops) (hsel : Region.noSelect ops = true) (hQ : ∀ c a d v w, Q (.panic c) (a.put d v) w → Q (.panic c) a w) :
    ∀ (t : Fj) (listed : Array Bool) (a : Act) (w : World), t.fits l.length = true → forkJOk md ops t listed = true → H w →
      wpForkK P ops Q H (t.ops l) a w → wpAnyH P md ops Q H t.len listed a w := by
  subst hl
  intro t
  induction t with
  | done => exact fun listed a w _ hB hA h => wpAnyH_done (by simpa [forkJOk] using hB) h _
  | look i r ih =>
    intro listed a w hF hB hA h
    simp only [Fj.fits, Bool.and_eq_true, decide_eq_true_eq] at hF
    simp only [forkJOk, Bool.and_eq_true] at hB
    obtain ⟨⟨hr, hf, hk⟩, hB'⟩ := hB
    have ho := nth_get l i hF.1
    have hl' : isLook (nth l i).op = true := by simpa [ho] using hk
    have hst : ∃ v, YieldsIf P l.toArray H (nth l i) v a ∧ wpForkK P l.toArray Q H (r.ops l) (a.put (nth l i).dst v) w := by
      unfold Fj.ops wpForkK at h
      by_cases hw : Region.wanted (nth l i) (yielded l.toArray a.tmps) = true
      · rw [if_pos hw] at h
        obtain ⟨v, h1, h2⟩ := h
        refine ⟨v, .inl ⟨hw, fun w' hw' => ?_⟩, h2⟩
        have h3 := h1 w' hw'
        unfold Oper.quietAt at h3
        cases hrun : (execOp a.eval (nth l i)).run P w' with
        | ok x w1 =>
          obtain ⟨u, rfl⟩ := look_value hl' a.eval w' x w1 hrun
          rw [hrun] at h3
          simp only [Oper.quietUpon] at h3
          rw [h3.1, h3.2]
        | halt x w1 => rw [hrun] at h3; exact h3.elim
      · rw [if_neg hw] at h
        exact ⟨undef, .inr ⟨by simpa using hw, rfl⟩, h⟩
    obtain ⟨v, hy, hK⟩ := hst
    exact wpAnyH_take ho hsel hf hr (fun c a w => hQ c a _ _ w) hy hA (ih _ _ _ hF.2 hB' hA hK)
  | eff i r ih =>
    intro listed a w hF hB hA h
    simp only [Fj.fits, Bool.and_eq_true, decide_eq_true_eq] at hF
    simp only [forkJOk, Bool.and_eq_true, beq_iff_eq] at hB
    obtain ⟨hk, hB'⟩ := hB
    refine wpAnyH_all hk (by simp) fun j hj => ?_
    have hji : j = i := by simpa using hj
    subst hji
    exact wpOp_mono (fun a' w' h' => ⟨h'.1, ih _ _ _ hF.2 hB' h'.1 h'.2⟩) (effH_op (nth_get l j hF.1) hA h)
  | fork i x j y ihx ihy =>
    intro listed a w hF hB hA h
    simp only [Fj.fits, Bool.and_eq_true, decide_eq_true_eq, beq_iff_eq] at hF
    obtain ⟨⟨⟨⟨hi, hj⟩, hlen⟩, hfx⟩, hfy⟩ := hF
    simp only [forkJOk, Bool.and_eq_true, beq_iff_eq] at hB
    obtain ⟨⟨hk, hBx⟩, hBy⟩ := hB
    refine wpAnyH_all hk (by simp) fun q hq => ?_
    have hq2 : q = i ∨ q = j := by simpa using hq
    rcases hq2 with rfl | rfl
    · exact wpOp_mono (fun a' w' h' => ⟨h'.1, ihx _ _ _ hfx hBx h'.1 h'.2⟩) (effH_op (nth_get l q hi) hA h.1)
    · refine wpOp_mono (fun a' w' h' => ⟨h'.1, ?_⟩) (effH_op (nth_get l q hj) hA h.2)
      show wpAnyH P md l.toArray Q H x.len _ a' w'
      rw [hlen]
      exact ihy _ _ _ hfy hBy h'.1 h'.2
  | three i x j y k z ihx ihy ihz =>
    intro listed a w hF hB hA h
    simp only [Fj.fits, Bool.and_eq_true, decide_eq_true_eq, beq_iff_eq] at hF
    obtain ⟨⟨⟨⟨⟨⟨⟨hi, hj⟩, hk'⟩, hlen⟩, hlen2⟩, hfx⟩, hfy⟩, hfz⟩ := hF
    simp only [forkJOk, Bool.and_eq_true, beq_iff_eq] at hB
    obtain ⟨⟨⟨hk, hBx⟩, hBy⟩, hBz⟩ := hB
    refine wpAnyH_all hk (by simp) fun q hq => ?_
    have hq2 : q = i ∨ q = j ∨ q = k := by simpa using hq
    rcases hq2 with rfl | rfl | rfl
    · exact wpOp_mono (fun a' w' h' => ⟨h'.1, ihx _ _ _ hfx hBx h'.1 h'.2⟩) (effH_op (nth_get l q hi) hA h.1)
    · refine wpOp_mono (fun a' w' h' => ⟨h'.1, ?_⟩) (effH_op (nth_get l q hj) hA h.2.1)
      show wpAnyH P md l.toArray Q H x.len _ a' w'
      rw [hlen]
      exact ihy _ _ _ hfy hBy h'.1 h'.2
    · refine wpOp_mono (fun a' w' h' => ⟨h'.1, ?_⟩) (effH_op (nth_get l q hk') hA h.2.2)
      show wpAnyH P md l.toArray Q H x.len _ a' w'
      rw [hlen2]
      exact ihz _ _ _ hfz hBz h'.1 h'.2
/-- **A tree of orders serves every order.** -/
theorem wp_region_forkK {id : Nat} {a : Act} {w : World} {l : List Oper} (H : World → Prop) (t : Fj) (hA : H w.drew) (hm : P.follows .mixedOrders = true)
    (hB : (Region.noSelect l.toArray && t.len == l.toArray.size && t.fits l.length && forkJOk .any l.toArray t (Array.replicate l.toArray.size false)) = true)
    (hQ : ∀ c a d v w, Q (.panic c) (a.put d v) w → Q (.panic c) a w)
    (h : wpForkK P l.toArray Q H (t.ops l) a w.drew) : (Code.region id l.toArray true).wp P Q a w := by
  simp only [Bool.and_eq_true, beq_iff_eq] at hB
  obtain ⟨⟨⟨hsel, hlen⟩, hall⟩, hseq⟩ := hB
  refine wp_region_held (S := H) hm ?_
  have H1 := wpAnyH_forkK (md := .any) (P := P) (H := H) rfl hsel hQ t (Array.replicate l.toArray.size false) a w.drew hall hseq hA h
  rwa [hlen] at H1
end
end Go.Proofs.YtcdocklbpfdmeaaDoor

/- Collide: grow. -/
set_option linter.unusedSimpArgs false
set_option linter.unusedVariables false
set_option linter.unnecessarySimpa false
set_option maxRecDepth 20000
namespace Go.Proofs.YtcdocklbpfdmeaaDoor
open Go.RowKit
theorem Frm.allocR {F : Nat → Prop} {w w' : World} (h : Frm F w w') (o : Obj) : Frm F w (w'.alloc o) := h.alloc o
theorem Frm.setsNew {F : Nat → Prop} {w w' : World} (h : Frm F w w') {b : Nat} (hb : w.heap.size ≤ b) (o : Nat) (vs : List Value) : Frm F w (w'.setCells b o vs) := by
  obtain ⟨h1, h2, h3⟩ := setCells_os b vs o w'
  exact ⟨h1.trans h.os, h2.trans h.tape, h3.trans h.output, by rw [setCells_size]; exact h.size, fun k hk hf => (setCells_heap _ _ _ _ _ (by omega)).trans (h.same k hk hf)⟩
/-- The block is a row of digests. -/
structure IdB (w : World) (r : Nat) : Prop where
  out : ∃ cs fr, w.heap[r]? = some (.cells cs 46 fr)
theorem IdB.ex {w w' : World} {r : Nat} (h : IdB w r) (k : Ex w w') : IdB w' r := by
  obtain ⟨cs, fr, h⟩ := h.out
  exact ⟨cs, fr, ex_block k h⟩
theorem IdB.allocR {w : World} {r : Nat} (h : IdB w r) (o : Obj) : IdB (w.alloc o) r := h.ex (ex_alloc (ex_refl _) _)
theorem IdB.wxR {w : World} {r : Nat} (h : IdB w r) (X : More) : IdB (wx w X) r := h.ex ⟨X, rfl⟩
theorem IdB.drewR {w : World} {r : Nat} (h : IdB w r) : IdB w.drew r := h.ex (ex_drew (ex_refl _))
theorem IdB.new (w : World) (cs : Array Value) : IdB (w.alloc (.cells cs 46)) w.heap.size := ⟨cs, (0, 0), heap_alloc_new _ _⟩
theorem IdB.setsR {w : World} {r : Nat} (h : IdB w r) (b o : Nat) (vs : List Value) : IdB (w.setCells b o vs) r := by
  obtain ⟨cs, fr, h⟩ := h.out
  by_cases hb : r = b
  · subst hb
    exact ⟨_, fr, setCells_block r _ fr vs o w _ h⟩
  · exact ⟨cs, fr, (setCells_heap _ _ _ _ _ hb).trans h⟩
theorem IdB.frm {w w' : World} {r p : Nat} (h : IdB w r) (k : FrP p w w') (hn : r ≠ p) : IdB w' r := by
  obtain ⟨cs, fr, h⟩ := h.out
  exact ⟨cs, fr, row_frm h k hn⟩
theorem Wk.allocR {w : World} {p W : Nat} {c : Cl} (h : Wk w p W c) (o : Obj) : Wk (w.alloc o) p W c := h.ex (ex_alloc (ex_refl _) _)
theorem Wk.wxR {w : World} {p W : Nat} {c : Cl} (h : Wk w p W c) (X : More) : Wk (wx w X) p W c := h.ex ⟨X, rfl⟩
theorem Wk.drewR {w : World} {p W : Nat} {c : Cl} (h : Wk w p W c) : Wk w.drew p W c := h.ex (ex_drew (ex_refl _))
theorem Wk.setsR {w : World} {p W : Nat} {c : Cl} {r : Nat} (h : Wk w p W c) (hr : IdB w r) (o : Nat) (vs : List Value) : Wk (w.setCells r o vs) p W c := by
  obtain ⟨cs, fr, hr⟩ := hr.out
  exact h.frm (nok_id hr) (frm_sets o vs)
theorem IdB.new' {w : World} {r : Nat} {cs : Array Value} (h : r = w.heap.size) : IdB (w.alloc (.cells cs 46)) r := by subst h; exact IdB.new _ _
def setsN (w : World) (b r n : Nat) (vs : List Value) : Option (Array Value) := cellsN (w.setCells b 0 vs) r 0 n
theorem setCells_cell (b : Nat) : ∀ (vs : List Value) (o : Nat) (w : World) (j : Nat), (w.cell? ⟨b, j, none⟩).isSome = true → (w.setCells b o vs).cell? ⟨b, j, none⟩ = if o ≤ j ∧ j < o + vs.length then vs[j - o]? else w.cell? ⟨b, j, none⟩ := by
  intro vs o w j hj
  have hb : ∃ cs t fr, w.heap[b]? = some (.cells cs t fr) ∧ j < cs.size := by
    unfold World.cell? at hj
    cases hh : w.heap[b]? with
    | none => rw [hh] at hj; cases hj
    | some ob =>
      rw [hh] at hj
      cases ob with
      | cells cs t fr =>
        refine ⟨cs, t, fr, rfl, ?_⟩
        simpa using hj
      | _ => cases hj
  obtain ⟨cs, t, fr, hb, hjs⟩ := hb
  rw [cell_of_row _ b j _ _ _ (setCells_block b t fr vs o w cs hb), cell_of_row w b j _ _ _ hb, spliceA_get]
  by_cases h : o ≤ j ∧ j < o + vs.length
  · rw [if_pos ⟨h.1, h.2, hjs⟩, if_pos h]
  · rw [if_neg (by rintro ⟨h1, h2, _⟩; exact h ⟨h1, h2⟩), if_neg h]
@[go_sem low] theorem cellsN_setsR (w : World) (b r n : Nat) (vs : List Value) : cellsN (w.setCells b 0 vs) r 0 n = if b = r then (if ((cellsN w r 0 n).isSome && vs.length == n) = true then some vs.toArray else setsN w b r n vs) else cellsN w r 0 n := by
  by_cases hb : b = r
  · subst hb
    rw [if_pos rfl]
    split
    · rename_i h
      rw [Bool.and_eq_true, beq_iff_eq] at h
      obtain ⟨h1, h2⟩ := h
      obtain ⟨cs, hcs⟩ := Option.isSome_iff_exists.1 h1
      obtain ⟨e1, e2⟩ := cellsN_some.1 hcs
      refine cellsN_some.2 ⟨by simpa using h2, fun j hj => ?_⟩
      have e3 := e2 j hj
      rw [Nat.zero_add] at e3 ⊢
      rw [setCells_cell b vs 0 w j (by rw [e3, Array.getElem?_eq_getElem (by omega)]; rfl), if_pos ⟨Nat.zero_le _, by omega⟩]
      simp
    · rfl
  · rw [if_neg hb]
    exact cellsN_congr fun j _ => by simp only [World.cell?, setCells_heap _ _ _ _ _ (Ne.symm hb)]
theorem frozen_set (w : World) (a : Addr) (v : Value) (c : Addr) : (w.setCell a v).frozen? c = w.frozen? c := by
  simp only [World.frozen?, World.setCell, Array.getElem?_modify]
  by_cases h : a.block = c.block
  · rw [if_pos h]
    cases w.heap[c.block]? with
    | none => rfl
    | some ob => cases ob <;> rfl
  · rw [if_neg h]
theorem frozen_sets (b : Nat) : ∀ (vs : List Value) (o : Nat) (w : World) (c : Addr), (w.setCells b o vs).frozen? c = w.frozen? c
  | [], _, _, _ => rfl
  | v :: r, o, w, c => by unfold World.setCells; rw [frozen_sets b r, frozen_set]
@[go_sem low] theorem frozenN_setsR (w : World) (b o : Nat) (vs : List Value) (r i n : Nat) : frozenN (w.setCells b o vs) r i n = frozenN w r i n := frozenN_congr fun j _ => frozen_sets b vs o w _
/-- What a block of 32 cells keeps. -/
theorem fr32 {p r : Nat} {A w5 : World} {cs : Array Value} (k : FrP p A w5) (hi : IdB A r) (hn : r ≠ p) (hc : cellsN A r 0 32 = some cs) (hf : frozenN A r 0 32 = false) : cellsN w5 r 0 32 = some cs ∧ frozenN w5 r 0 32 = false ∧ r < w5.heap.size ∧ IdB w5 r := by
  have hid := hi.frm k hn
  obtain ⟨ds, fr, hi⟩ := hi.out
  have hz := (Array.getElem?_eq_some_iff.1 hi).1
  have hs := k.same r hz hn
  refine ⟨?_, ?_, Nat.lt_of_lt_of_le hz k.size, hid⟩
  · rw [← hc]; exact cellsN_congr fun j _ => by simp only [World.cell?, hs]
  · rw [← hf]; exact frozenN_congr fun j _ => by simp only [World.frozen?, hs]
theorem fr32_try {p r : Nat} {A w5 : World} {cs : Array Value} {G : Prop} (k : FrP p A w5) (h : cellsN w5 r 0 32 = some cs ∧ frozenN w5 r 0 32 = false ∧ r < w5.heap.size ∧ IdB w5 r → G) (hi : IdB A r) (hn : r ≠ p) (hc : cellsN A r 0 32 = some cs) (hf : frozenN A r 0 32 = false) : G := h (fr32 k hi hn hc hf)
/-- Two rows that are handed back are stored. -/
theorem k_end2 {p W r1 r2 : Nat} {w A w5 : World} {c : Cl} {g1 g2 : Nat → UInt8} (h1 : w.heap.size ≤ r1) (h2 : w.heap.size ≤ r2) (h12 : r1 ≠ r2) (hr1 : A.heap[r1]? = some (.cells (rowB 32 g1) 46 (0, 0))) (hr2 : A.heap[r2]? = some (.cells (rowB 32 g2) 46 (0, 0)))
    (kw : FrP p w A) (F5 : FrP p A w5) (K5 : Wk w5 p W c) (hn1 : r1 ≠ p) (hn2 : r2 ≠ p) :
    (cellsN w5 r1 0 32 = some (rowB 32 g1) ∧ frozenN w5 r1 0 32 = false ∧ r1 < w5.heap.size) ∧
    (cellsN w5 r2 0 32 = some (rowB 32 g2) ∧ frozenN w5 r2 0 32 = false ∧ r2 < w5.heap.size) ∧
    ∀ x y : Dg, cellsN ((w5.setCells r1 0 (rowB 32 (dF x)).toList).setCells r2 0 (rowB 32 (dF y)).toList) r1 0 32 = some (rowB 32 (dF x)) ∧ cellsN ((w5.setCells r1 0 (rowB 32 (dF x)).toList).setCells r2 0 (rowB 32 (dF y)).toList) r2 0 32 = some (rowB 32 (dF y)) ∧
      FrP p w ((w5.setCells r1 0 (rowB 32 (dF x)).toList).setCells r2 0 (rowB 32 (dF y)).toList) ∧ Wk ((w5.setCells r1 0 (rowB 32 (dF x)).toList).setCells r2 0 (rowB 32 (dF y)).toList) p W c := by
  have b1 := row_frm hr1 F5 hn1
  have b2 := row_frm hr2 F5 hn2
  refine ⟨block_cellsF b1 (by simp), block_cellsF b2 (by simp), fun x y => ?_⟩
  · have b3 := setCells_block r1 46 (0, 0) (rowB 32 (dF x)).toList 0 w5 _ b1
    rw [spliceA_all _ _ (by simp)] at b3
    have b4 := (setCells_heap r2 (rowB 32 (dF y)).toList 0 (w5.setCells r1 0 (rowB 32 (dF x)).toList) r1 h12).trans b3
    have b5 := (setCells_heap r1 (rowB 32 (dF x)).toList 0 w5 r2 (Ne.symm h12)).trans b2
    have b6 := setCells_block r2 46 (0, 0) (rowB 32 (dF y)).toList 0 _ _ b5
    rw [spliceA_all _ _ (by simp)] at b6
    refine ⟨(block_cellsF b4 (by simp)).1, (block_cellsF b6 (by simp)).1, ((kw.trans F5).setsNew h1 _ _).setsNew h2 _ _, (K5.setsR ⟨_, _, b1⟩ _ _).setsR ⟨_, _, b5⟩ _ _⟩
/-- X where it holds what A holds, but for a set of blocks, one of which keeps its first cell; else A. -/
noncomputable def kq2 (A : World) (p : Nat) (P : Nat → Prop) (X : World) : World := open Classical in if (∀ k, k < A.heap.size → ¬ P k → X.heap[k]? = A.heap[k]?) ∧ X.cell? ⟨p, 0, none⟩ = A.cell? ⟨p, 0, none⟩ then X else A
theorem kq2_heap (A : World) (p : Nat) (P : Nat → Prop) (X : World) {k : Nat} (h : k < A.heap.size) (h2 : ¬ P k) : (kq2 A p P X).heap[k]? = A.heap[k]? := by
  unfold kq2; split
  · rename_i h3; exact h3.1 k h h2
  · rfl
theorem kq2_zero (A : World) (p : Nat) (P : Nat → Prop) (X : World) : (kq2 A p P X).cell? ⟨p, 0, none⟩ = A.cell? ⟨p, 0, none⟩ := by
  unfold kq2; split
  · rename_i h3; exact h3.2
  · rfl
theorem kq2_of {A X : World} {p : Nat} {P : Nat → Prop} (h : ∀ k, k < A.heap.size → ¬ P k → X.heap[k]? = A.heap[k]?) (hc : X.cell? ⟨p, 0, none⟩ = A.cell? ⟨p, 0, none⟩) : X = kq2 A p P X := by
  unfold kq2; rw [if_pos ⟨h, hc⟩]
theorem kq2F {A X : World} {p : Nat} {P : Nat → Prop} (h : Frm P A X) (hc : X.cell? ⟨p, 0, none⟩ = A.cell? ⟨p, 0, none⟩) : X = kq2 A p P X := kq2_of h.same hc
noncomputable def kq2Far (A : World) (p : Nat) (P : Nat → Prop) (X : World) (a : Addr) : Option Value := (kq2 A p P X).cell? a
noncomputable def kq2FarN (A : World) (p : Nat) (P : Nat → Prop) (X : World) (b i n : Nat) : Option (Array Value) := cellsN (kq2 A p P X) b i n
open Classical in
@[go_sem high] theorem kq2_cell (A : World) (p : Nat) (P : Nat → Prop) (X : World) (b i : Nat) : (kq2 A p P X).cell? ⟨b, i, none⟩ = if b < A.heap.size ∧ (¬ P b ∨ (b = p ∧ i = 0)) then A.cell? ⟨b, i, none⟩ else kq2Far A p P X ⟨b, i, none⟩ := by
  split
  · rename_i h
    rcases h with ⟨h1, h2 | ⟨rfl, rfl⟩⟩
    · simp only [World.cell?, kq2_heap A p P X h1 h2]
    · exact kq2_zero A _ P X
  · rfl
open Classical in
@[go_sem high] theorem kq2_cellsN (A : World) (p : Nat) (P : Nat → Prop) (X : World) (b i n : Nat) : cellsN (kq2 A p P X) b i n = if b < A.heap.size ∧ ¬ P b then cellsN A b i n else kq2FarN A p P X b i n := by
  split
  · rename_i h; exact cellsN_congr fun j _ => by simp only [World.cell?, kq2_heap A p P X h.1 h.2]
  · rfl
structure WkE (w : World) (p W : Nat) : Prop where
  out : ∃ c, Wk w p W c
theorem WkE.of {w : World} {p W : Nat} {c : Cl} (h : Wk w p W c) : WkE w p W := ⟨c, h⟩
theorem WkE.allocR {w : World} {p W : Nat} (h : WkE w p W) (o : Obj) : WkE (w.alloc o) p W := by obtain ⟨c, h⟩ := h.out; exact ⟨c, h.allocR o⟩
theorem WkE.wxR {w : World} {p W : Nat} (h : WkE w p W) (X : More) : WkE (wx w X) p W := by obtain ⟨c, h⟩ := h.out; exact ⟨c, h.wxR X⟩
theorem WkE.drewR {w : World} {p W : Nat} (h : WkE w p W) : WkE w.drew p W := by obtain ⟨c, h⟩ := h.out; exact ⟨c, h.drewR⟩
theorem WkE.setsR {w : World} {p W r : Nat} (h : WkE w p W) (hr : IdB w r) (o : Nat) (vs : List Value) : WkE (w.setCells r o vs) p W := by obtain ⟨c, h⟩ := h.out; exact ⟨c, h.setsR hr o vs⟩
theorem wk_zeroE {w w' : World} {p W : Nat} {c : Cl} (h : Wk w p W c) (h' : WkE w' p W) : w'.cell? ⟨p, 0, none⟩ = w.cell? ⟨p, 0, none⟩ := by
  obtain ⟨c', h'⟩ := h'.out
  exact h'.width.trans h.width.symm
theorem wk_zeroG {w w' : World} {p W : Nat} {c c' : Cl} (h : Wk w p W c) (h' : Wk w' p W c') : w'.cell? ⟨p, 0, none⟩ = w.cell? ⟨p, 0, none⟩ := h'.width.trans h.width.symm
/-- In the midst of grow: two new rows. -/
def midG (A1 : World) (p W : Nat) (c1 : Cl) (xa xb : Dg) (sa sb : Nat) (ks : List Nat) (a0 a' : Act) (w' : World) : Prop :=
  ∃ (b17 b18 : Nat), a'.tmps.getD sa undef = .pointer (some ⟨b17, 0, none⟩) ∧ a'.tmps.getD sb undef = .pointer (some ⟨b18, 0, none⟩) ∧ a' = ks.foldl (fun a k => a.put (some k) (a'.tmps.getD k undef)) a0 ∧
    cellsN w' b17 0 32 = some (rowB 32 (dF xa)) ∧ cellsN w' b18 0 32 = some (rowB 32 (dF xb)) ∧ A1.heap.size ≤ b17 ∧ A1.heap.size ≤ b18 ∧ b17 < w'.heap.size ∧ b18 < w'.heap.size ∧ Wk w' p W c1 ∧ FrP p A1 w'
theorem midG_mk {A1 : World} {p W : Nat} {c1 : Cl} {xa xb : Dg} {sa sb : Nat} {ks : List Nat} {a0 a' : Act} {w' : World} {b17 b18 : Nat} (h1 : a'.tmps.getD sa undef = .pointer (some ⟨b17, 0, none⟩)) (h2 : a'.tmps.getD sb undef = .pointer (some ⟨b18, 0, none⟩)) (h3 : a' = ks.foldl (fun a k => a.put (some k) (a'.tmps.getD k undef)) a0)
    (h4 : cellsN w' b17 0 32 = some (rowB 32 (dF xa))) (h5 : cellsN w' b18 0 32 = some (rowB 32 (dF xb))) (h6 : A1.heap.size ≤ b17) (h7 : A1.heap.size ≤ b18) (h8 : b17 < w'.heap.size) (h9 : b18 < w'.heap.size) (h10 : Wk w' p W c1) (h11 : FrP p A1 w') : midG A1 p W c1 xa xb sa sb ks a0 a' w' := ⟨b17, b18, h1, h2, h3, h4, h5, h6, h7, h8, h9, h10, h11⟩
def growV (a b : Dg) : Value := .tuple #[.agg (rowB 32 (dF a)), .agg (rowB 32 (dF b))]
def PostKG (p W : Nat) (w : World) (o : Option (Dg × Dg × Cl)) (e : Ending) (w' : World) : Prop := match o with
  | some x => PostK p W w (growV x.1 x.2.1) x.2.2 e w'
  | none => e = offE ∧ FrP p w w' ∧ ∃ c, Wk w' p W c
set_option maxHeartbeats 1000000 in
theorem wgrow_all {A : World} (W : Nat) {p : Nat} (N : Nat) (la : Option Addr) (lc : Nat) (old : Dg) (known : Bool) (proof : List Dg) (pa : Option Addr) (pc : Nat) (c : Cl) (w : World)
    (hN : N ≤ 1024) (hlc : N ≤ lc) (hlm : lc ≤ maxLen) (hpc : proof.length ≤ pc) (hpm : pc ≤ maxLen) (hpath : SlD w pa proof) (hk : Wk w p W c) :
    Calls Tryd.prog 116 #[.pointer (some ⟨p, 0, none⟩), .slice la N lc, I N, .agg (rowB 32 (dF old)), .bool known, .slice pa proof.length pc] w
      (PostKG p W w (if known then (if proof = [] then some (old, old, c) else none) else (loneD proof).map fun x => (x, x, c))) := by
  have HK := Lib.hid hk
  have hpw := hk.lt
  have e0 : ((N : Int) == N) = true := by simp
  cases known with
  | true =>
    rw [if_pos rfl]
    cases proof with
    | cons y r =>
      have hd : decide ((0 : Int) < ((r.length + 1 : Nat) : Int)) = true := decide_eq_true (by omega)
      rw [if_neg (by simp), List.length_cons]
      generalize r.length = n at *
      clear hk hpath
      unfold maxLen at hlm hpm
      go_enter Tryd.func116, Tryd.ntmps116
      go_wp2
      exact ⟨rfl, rfl, Frm.ex (by (try show Ex _ _); repeat (first | (with_reducible exact ex_refl _) | (with_reducible assumption) | (with_reducible refine ex_drewL ?_) | (with_reducible refine ex_appR ?_ _) | (with_reducible refine ex_wx ?_ _) | (with_reducible refine ex_drew ?_) | (with_reducible refine ex_alloc ?_ _))), c, HK.out.ex (by (try show Ex _ _); repeat (first | (with_reducible exact ex_refl _) | (with_reducible assumption) | (with_reducible refine ex_drewL ?_) | (with_reducible refine ex_appR ?_ _) | (with_reducible refine ex_wx ?_ _) | (with_reducible refine ex_drew ?_) | (with_reducible refine ex_alloc ?_ _)))⟩
    | nil =>
      rw [if_pos rfl]
      clear hk hpath
      unfold maxLen at hlm hpm
      go_enter Tryd.func116, Tryd.ntmps116
      go_wp2
      refine wp_region_seqA (w.alloc (.cells (rowB 32 (dF old)) 46)) [(0, true), (1, true), (2, false), (3, false)] (by (try show Ex _ _); repeat (first | (with_reducible exact ex_refl _) | (with_reducible assumption) | (with_reducible refine ex_drewL ?_) | (with_reducible refine ex_appR ?_ _) | (with_reducible refine ex_wx ?_ _) | (with_reducible refine ex_drew ?_) | (with_reducible refine ex_alloc ?_ _))) (by kernel_rfl) (by kernel_rfl) (fun _ _ d _ _ h => by cases d <;> exact h) ?_
      simp only [List.map_cons, List.map_nil, nth]
      repeat (first | ((with_reducible refine wpSeq_look ?_); go_big_quiet_step (fail); (with_reducible refine wpQuiet_nil ?_)) | ((with_reducible refine wpSeq_effF ?_ ?_); (focus rfl); go_simp) | ((with_reducible refine wpSeq_eff ?_ ?_); (focus rfl); (try dsimp only); go_wp2_with (fail); refine mixQ_mk (by (try show Ex _ _); repeat (first | (with_reducible exact ex_refl _) | (with_reducible assumption) | (with_reducible refine ex_drewL ?_) | (with_reducible refine ex_appR ?_ _) | (with_reducible refine ex_wx ?_ _) | (with_reducible refine ex_drew ?_) | (with_reducible refine ex_alloc ?_ _))) ?_))
      refine wpSeq_nil ?_
      go_wp2
      exact ret_rowrow (cs := rowB 32 (dF old)) (cs2 := rowB 32 (dF old)) Tryd.results116 Tryd.underlying46 rfl info_id rfl (by simp [go_sem]) rfl (by simp [go_sem]) rfl (postk_ex rfl HK.out (by (try show Ex _ _); repeat (first | (with_reducible exact ex_refl _) | (with_reducible assumption) | (with_reducible refine ex_drewL ?_) | (with_reducible refine ex_appR ?_ _) | (with_reducible refine ex_wx ?_ _) | (with_reducible refine ex_drew ?_) | (with_reducible refine ex_alloc ?_ _))))
  | false =>
    rw [if_neg (by decide)]
    rcases snoc_cases proof with rfl | ⟨r, y, rfl⟩
    · have HR := Lib.hid (fun w => rest_none pa pc w)
      clear hk hpath
      unfold maxLen at hlm hpm
      go_enter Tryd.func116, Tryd.ntmps116
      go_wp2_with (go_at_call 142; (with_reducible refine (HR.out _).mono ?_); rintro e w2 ⟨rfl, k2⟩; dsimp only [offE])
      exact ⟨rfl, rfl, Frm.ex (ex_trans (by (try show Ex _ _); repeat (first | (with_reducible exact ex_refl _) | (with_reducible assumption) | (with_reducible refine ex_drewL ?_) | (with_reducible refine ex_appR ?_ _) | (with_reducible refine ex_wx ?_ _) | (with_reducible refine ex_drew ?_) | (with_reducible refine ex_alloc ?_ _))) k2), c, HK.out.ex (ex_trans (by (try show Ex _ _); repeat (first | (with_reducible exact ex_refl _) | (with_reducible assumption) | (with_reducible refine ex_drewL ?_) | (with_reducible refine ex_appR ?_ _) | (with_reducible refine ex_wx ?_ _) | (with_reducible refine ex_drew ?_) | (with_reducible refine ex_alloc ?_ _))) k2)⟩
    · have hrl : (r ++ [y]).length = r.length + 1 := by simp
      rw [hrl] at hpc ⊢
      have HR := Lib.hid (fun w' (k : Ex w w') => rest_some r y pa pc w' hpc hpm (hpath.ex k))
      cases r with
      | nil =>
        have hlo : (loneD ([] ++ [y])).map (fun x => (x, x, c)) = some (y, y, c) := rfl
        rw [hlo]
        have HR2 : Hid (∀ w', Ex w w' → Calls Tryd.prog 142 #[.slice pa 1 pc] w' (Post w' (.tuple #[.slice pa 0 pc, .agg (rowB 32 (dF y))]))) := HR
        clear hk hpath hlo hrl HR
        unfold maxLen at hlm hpm
        go_enter Tryd.func116, Tryd.ntmps116
        go_wp2_with (go_at_call 142; (with_reducible refine (HR2.out _ (by (try show Ex _ _); repeat (first | (with_reducible exact ex_refl _) | (with_reducible assumption) | (with_reducible refine ex_drewL ?_) | (with_reducible refine ex_appR ?_ _) | (with_reducible refine ex_wx ?_ _) | (with_reducible refine ex_drew ?_) | (with_reducible refine ex_alloc ?_ _)))).mono ?_); rintro e w2 ⟨rfl, XR, rfl⟩)
        refine wp_region_seqA (w.alloc (.cells (rowB 32 (dF y)) 46)) [(0, true), (1, true), (2, false), (3, false)] (by (try show Ex _ _); repeat (first | (with_reducible exact ex_refl _) | (with_reducible assumption) | (with_reducible refine ex_drewL ?_) | (with_reducible refine ex_appR ?_ _) | (with_reducible refine ex_wx ?_ _) | (with_reducible refine ex_drew ?_) | (with_reducible refine ex_alloc ?_ _))) (by kernel_rfl) (by kernel_rfl) (fun _ _ d _ _ h => by cases d <;> exact h) ?_
        simp only [List.map_cons, List.map_nil, nth]
        repeat (first | ((with_reducible refine wpSeq_look ?_); go_big_quiet_step (fail); (with_reducible refine wpQuiet_nil ?_)) | ((with_reducible refine wpSeq_effF ?_ ?_); (focus rfl); go_simp) | ((with_reducible refine wpSeq_eff ?_ ?_); (focus rfl); (try dsimp only); go_wp2_with (fail); refine mixQ_mk (by (try show Ex _ _); repeat (first | (with_reducible exact ex_refl _) | (with_reducible assumption) | (with_reducible refine ex_drewL ?_) | (with_reducible refine ex_appR ?_ _) | (with_reducible refine ex_wx ?_ _) | (with_reducible refine ex_drew ?_) | (with_reducible refine ex_alloc ?_ _))) ?_))
        refine wpSeq_nil ?_
        go_wp2
        exact ret_rowrow (cs := rowB 32 (dF y)) (cs2 := rowB 32 (dF y)) Tryd.results116 Tryd.underlying46 rfl info_id rfl (by simp [go_sem]) rfl (by simp [go_sem]) rfl (postk_ex rfl HK.out (by (try show Ex _ _); repeat (first | (with_reducible exact ex_refl _) | (with_reducible assumption) | (with_reducible refine ex_drewL ?_) | (with_reducible refine ex_appR ?_ _) | (with_reducible refine ex_wx ?_ _) | (with_reducible refine ex_drew ?_) | (with_reducible refine ex_alloc ?_ _))))
      | cons z r =>
        have hlo : (loneD (z :: r ++ [y])).map (fun x => (x, x, c)) = none := by cases r <;> rfl
        rw [hlo]
        have hd : decide ((0 : Int) < ((r.length + 1 : Nat) : Int)) = true := decide_eq_true (by omega)
        rw [List.length_cons] at *
        generalize r.length = n at *
        clear hk hpath hlo hrl
        unfold maxLen at hlm hpm
        go_enter Tryd.func116, Tryd.ntmps116
        go_wp2_with (go_at_call 142; (with_reducible refine (HR.out _ (by (try show Ex _ _); repeat (first | (with_reducible exact ex_refl _) | (with_reducible assumption) | (with_reducible refine ex_drewL ?_) | (with_reducible refine ex_appR ?_ _) | (with_reducible refine ex_wx ?_ _) | (with_reducible refine ex_drew ?_) | (with_reducible refine ex_alloc ?_ _)))).mono ?_); rintro e w2 ⟨rfl, XR, rfl⟩)
        exact ⟨rfl, rfl, Frm.ex (by (try show Ex _ _); repeat (first | (with_reducible exact ex_refl _) | (with_reducible assumption) | (with_reducible refine ex_drewL ?_) | (with_reducible refine ex_appR ?_ _) | (with_reducible refine ex_wx ?_ _) | (with_reducible refine ex_drew ?_) | (with_reducible refine ex_alloc ?_ _))), c, HK.out.ex (by (try show Ex _ _); repeat (first | (with_reducible exact ex_refl _) | (with_reducible assumption) | (with_reducible refine ex_drewL ?_) | (with_reducible refine ex_appR ?_ _) | (with_reducible refine ex_wx ?_ _) | (with_reducible refine ex_drew ?_) | (with_reducible refine ex_alloc ?_ _)))⟩
end Go.Proofs.YtcdocklbpfdmeaaDoor
