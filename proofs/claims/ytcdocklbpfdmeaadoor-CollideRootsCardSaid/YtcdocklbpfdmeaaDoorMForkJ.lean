import Derived.Test.YtcdocklbpfdmeaaDoorMFork
import Derived.Test.YtcdocklbpfdmeaaDoorMLaC

/- A region that draws its order, over an elder world, where up to three things that make may come up at once: a tree of orders. Over whatever program. -/
set_option linter.unusedSimpArgs false
set_option linter.unusedVariables false
set_option maxRecDepth 20000
namespace Go.Proofs.YtcdocklbpfdmeaaDoor
open Go.RowKit
/-- A tree of orders: by index; by operation. -/
inductive Fj where
  | done
  | look (i : Nat) (r : Fj)
  | eff (i : Nat) (r : Fj)
  | fork (i : Nat) (x : Fj) (j : Nat) (y : Fj)
  | three (i : Nat) (x : Fj) (j : Nat) (y : Fj) (k : Nat) (z : Fj)
inductive FjO where
  | done
  | look (o : Oper) (r : FjO)
  | eff (o : Oper) (r : FjO)
  | fork (o : Oper) (x : FjO) (p : Oper) (y : FjO)
  | three (o : Oper) (x : FjO) (p : Oper) (y : FjO) (q : Oper) (z : FjO)
def Fj.len : Fj → Nat
  | .done => 0
  | .look _ r => r.len + 1
  | .eff _ r => r.len + 1
  | .fork _ x _ _ => x.len + 1
  | .three _ x _ _ _ _ => x.len + 1
def Fj.fits (n : Nat) : Fj → Bool
  | .done => true
  | .look i r => decide (i < n) && r.fits n
  | .eff i r => decide (i < n) && r.fits n
  | .fork i x j y => decide (i < n) && decide (j < n) && (x.len == y.len) && x.fits n && y.fits n
  | .three i x j y k z => decide (i < n) && decide (j < n) && decide (k < n) && (x.len == y.len) && (x.len == z.len) && x.fits n && y.fits n && z.fits n
def Fj.ops (l : List Oper) : Fj → FjO
  | .done => .done
  | .look i r => .look (nth l i) (r.ops l)
  | .eff i r => .eff (nth l i) (r.ops l)
  | .fork i x j y => .fork (nth l i) (x.ops l) (nth l j) (y.ops l)
  | .three i x j y k z => .three (nth l i) (x.ops l) (nth l j) (y.ops l) (nth l k) (z.ops l)
section
variable {P : Program} {ops : Array Oper} {Q : Exit → Act → World → Prop} {md : Region.Mode}
def wpForkJ (P : Program) (ops : Array Oper) (Q : Exit → Act → World → Prop) (A : World) : FjO → Act → World → Prop
  | .done, a, w => Q .normal a w
  | .look o r, a, w => if Region.wanted o (yielded ops a.tmps) then o.quiet P a (Ex A) (fun a' => wpForkJ P ops Q A r a' w) else wpForkJ P ops Q A r (a.put o.dst undef) w
  | .eff o r, a, w => effT P ops Q A o (wpForkJ P ops Q A r) a w
  | .fork o x p y, a, w => effT P ops Q A o (wpForkJ P ops Q A x) a w ∧ effT P ops Q A p (wpForkJ P ops Q A y) a w
  | .three o x p y q z, a, w => effT P ops Q A o (wpForkJ P ops Q A x) a w ∧ effT P ops Q A p (wpForkJ P ops Q A y) a w ∧ effT P ops Q A q (wpForkJ P ops Q A z) a w
theorem wpForkJ_look {A : World} {o : Oper} {r : FjO} {a : Act} {w : World}
    (h : wpQuiet P ops (fun w' => ∃ X, w' = wx A X) (fun a' => wpForkJ P ops Q A r a' w) [o] a) : wpForkJ P ops Q A (.look o r) a w := h
theorem wpForkJ_eff {A : World} {o : Oper} {r : FjO} {a : Act} {w : World} (h : effT P ops Q A o (wpForkJ P ops Q A r) a w) : wpForkJ P ops Q A (.eff o r) a w := h
theorem wpForkJ_fork {A : World} {o p : Oper} {x y : FjO} {a : Act} {w : World} (h : effT P ops Q A o (wpForkJ P ops Q A x) a w) (k : effT P ops Q A p (wpForkJ P ops Q A y) a w) : wpForkJ P ops Q A (.fork o x p y) a w := ⟨h, k⟩
theorem wpForkJ_three {A : World} {o p q : Oper} {x y z : FjO} {a : Act} {w : World} (h : effT P ops Q A o (wpForkJ P ops Q A x) a w) (k : effT P ops Q A p (wpForkJ P ops Q A y) a w) (m : effT P ops Q A q (wpForkJ P ops Q A z) a w) : wpForkJ P ops Q A (.three o x p y q z) a w := ⟨h, k, m⟩
theorem wpForkJ_nil {A : World} {a : Act} {w : World} (h : Q .normal a w) : wpForkJ P ops Q A .done a w := h
def forkJOk (md : Region.Mode) (ops : Array Oper) : Fj → Array Bool → Bool
  | .done, listed => Region.ready md ops listed == []
  | .look i r, listed => (Region.ready md ops listed).contains i && (Region.free md ops listed i && ((ops[i]?).map (fun o => isLook o.op)).getD false) && forkJOk md ops r (listed.setIfInBounds i true)
  | .eff i r, listed => Region.ready md ops listed == [i] && forkJOk md ops r (listed.setIfInBounds i true)
  | .three i x j y k z, listed => Region.ready md ops listed == [i, j, k] && forkJOk md ops x (listed.setIfInBounds i true) && forkJOk md ops y (listed.setIfInBounds j true) && forkJOk md ops z (listed.setIfInBounds k true)
  | .fork i x j y, listed => Region.ready md ops listed == [i, j] && forkJOk md ops x (listed.setIfInBounds i true) && forkJOk md ops y (listed.setIfInBounds j true)
theorem wpAnyH_forkJ {A : World} {l : List Oper} (hl : l.toArray = ops) (hsel : Region.noSelect ops = true) (hQ : ∀ c a d v w, Q (.panic c) (a.put d v) w → Q (.panic c) a w) :
    ∀ (t : Fj) (listed : Array Bool) (a : Act) (w : World), t.fits l.length = true → forkJOk md ops t listed = true → Ex A w →
      wpForkJ P ops Q A (t.ops l) a w → wpAnyH P md ops Q (Ex A) t.len listed a w := by
  subst hl
  intro t
  induction t with
  | done => exact fun listed a w _ hB hA h => wpAnyH_done (by simpa [forkJOk] using hB) h _
  | look i r ih =>
    intro listed a w hF hB hA h
    simp only [Fj.fits, Bool.and_eq_true, decide_eq_true_eq] at hF
    simp only [forkJOk, Bool.and_eq_true] at hB
    obtain ⟨⟨hr, hf, hk⟩, hB'⟩ := hB
    have ho := nth_get l i hF.1
    have hl' : isLook (nth l i).op = true := by simpa [ho] using hk
    have hst : ∃ v, YieldsIf P l.toArray (Ex A) (nth l i) v a ∧ wpForkJ P l.toArray Q A (r.ops l) (a.put (nth l i).dst v) w := by
      unfold Fj.ops wpForkJ at h
      by_cases hw : Region.wanted (nth l i) (yielded l.toArray a.tmps) = true
      · rw [if_pos hw] at h
        obtain ⟨v, h1, h2⟩ := h
        refine ⟨v, .inl ⟨hw, fun w' hw' => ?_⟩, h2⟩
        have h3 := h1 w' hw'
        unfold Oper.quietAt at h3
        cases hrun : (execOp a.eval (nth l i)).run P w' with
        | ok x w1 =>
          obtain ⟨u, rfl⟩ := look_value hl' a.eval w' x w1 hrun
          rw [hrun] at h3
          simp only [Oper.quietUpon] at h3
          rw [h3.1, h3.2]
        | halt x w1 => rw [hrun] at h3; exact h3.elim
      · rw [if_neg hw] at h
        exact ⟨undef, .inr ⟨by simpa using hw, rfl⟩, h⟩
    obtain ⟨v, hy, hK⟩ := hst
    exact wpAnyH_take ho hsel hf hr (fun c a w => hQ c a _ _ w) hy hA (ih _ _ _ hF.2 hB' hA hK)
  | eff i r ih =>
    intro listed a w hF hB hA h
    simp only [Fj.fits, Bool.and_eq_true, decide_eq_true_eq] at hF
    simp only [forkJOk, Bool.and_eq_true, beq_iff_eq] at hB
    obtain ⟨hk, hB'⟩ := hB
    refine wpAnyH_all hk (by simp) fun j hj => ?_
    have hji : j = i := by simpa using hj
    subst hji
    exact wpOp_mono (fun a' w' h' => ⟨h'.1, ih _ _ _ hF.2 hB' h'.1 h'.2⟩) (effT_op (nth_get l j hF.1) hA h)
  | fork i x j y ihx ihy =>
    intro listed a w hF hB hA h
    simp only [Fj.fits, Bool.and_eq_true, decide_eq_true_eq, beq_iff_eq] at hF
    obtain ⟨⟨⟨⟨hi, hj⟩, hlen⟩, hfx⟩, hfy⟩ := hF
    simp only [forkJOk, Bool.and_eq_true, beq_iff_eq] at hB
    obtain ⟨⟨hk, hBx⟩, hBy⟩ := hB
    refine wpAnyH_all hk (by simp) fun q hq => ?_
    have hq2 : q = i ∨ q = j := by simpa using hq
    rcases hq2 with rfl | rfl
    · exact wpOp_mono (fun a' w' h' => ⟨h'.1, ihx _ _ _ hfx hBx h'.1 h'.2⟩) (effT_op (nth_get l q hi) hA h.1)
    · refine wpOp_mono (fun a' w' h' => ⟨h'.1, ?_⟩) (effT_op (nth_get l q hj) hA h.2)
      show wpAnyH P md l.toArray Q (Ex A) x.len _ a' w'
      rw [hlen]
      exact ihy _ _ _ hfy hBy h'.1 h'.2
  | three i x j y k z ihx ihy ihz =>
    intro listed a w hF hB hA h
    simp only [Fj.fits, Bool.and_eq_true, decide_eq_true_eq, beq_iff_eq] at hF
    obtain ⟨⟨⟨⟨⟨⟨⟨hi, hj⟩, hk'⟩, hlen⟩, hlen2⟩, hfx⟩, hfy⟩, hfz⟩ := hF
    simp only [forkJOk, Bool.and_eq_true, beq_iff_eq] at hB
    obtain ⟨⟨⟨hk, hBx⟩, hBy⟩, hBz⟩ := hB
    refine wpAnyH_all hk (by simp) fun q hq => ?_
    have hq2 : q = i ∨ q = j ∨ q = k := by simpa using hq
    rcases hq2 with rfl | rfl | rfl
    · exact wpOp_mono (fun a' w' h' => ⟨h'.1, ihx _ _ _ hfx hBx h'.1 h'.2⟩) (effT_op (nth_get l q hi) hA h.1)
    · refine wpOp_mono (fun a' w' h' => ⟨h'.1, ?_⟩) (effT_op (nth_get l q hj) hA h.2.1)
      show wpAnyH P md l.toArray Q (Ex A) x.len _ a' w'
      rw [hlen]
      exact ihy _ _ _ hfy hBy h'.1 h'.2
    · refine wpOp_mono (fun a' w' h' => ⟨h'.1, ?_⟩) (effT_op (nth_get l q hk') hA h.2.2)
      show wpAnyH P md l.toArray Q (Ex A) x.len _ a' w'
      rw [hlen2]
      exact ihz _ _ _ hfz hBz h'.1 h'.2
/-- **A tree of orders serves every order.** -/
theorem wp_region_forkJ {id : Nat} {a : Act} {w : World} {l : List Oper} (A : World) (t : Fj) (hA : Ex A w.drew) (hm : P.follows .mixedOrders = true)
    (hB : (Region.noSelect l.toArray && t.len == l.toArray.size && t.fits l.length && forkJOk .any l.toArray t (Array.replicate l.toArray.size false)) = true)
    (hQ : ∀ c a d v w, Q (.panic c) (a.put d v) w → Q (.panic c) a w)
    (h : wpForkJ P l.toArray Q A (t.ops l) a w.drew) : (Code.region id l.toArray true).wp P Q a w := by
  simp only [Bool.and_eq_true, beq_iff_eq] at hB
  obtain ⟨⟨⟨hsel, hlen⟩, hall⟩, hseq⟩ := hB
  refine wp_region_held (S := Ex A) hm ?_
  have H := wpAnyH_forkJ (md := .any) (P := P) (A := A) rfl hsel hQ t (Array.replicate l.toArray.size false) a w.drew hall hseq hA h
  rwa [hlen] at H
end
/-- What holds in the midst: the rest is walked once. -/
theorem wp_mid {P : Program} {c : Code} {K : Act → World → Prop} {Q : Exit → Act → World → Prop} {a : Act} {w : World} (R : Act → Act → World → Prop)
    (h1 : c.wp P (Exit.then (R a) Q) a w) (h2 : ∀ a' w', R a a' w' → Exit.then K Q .normal a' w') : c.wp P (Exit.then K Q) a w := by
  refine Code.wp_mono (fun x a' w' h => ?_) h1
  cases x <;> first | exact h2 _ _ h | exact h
end Go.Proofs.YtcdocklbpfdmeaaDoor

/- Collide's laws: what is kept where a variable's block turns; claims that came in; clashes that are the same. -/
set_option linter.unusedSimpArgs false
set_option linter.unusedVariables false
set_option linter.unnecessarySimpa false
set_option maxRecDepth 20000
namespace Go.Proofs.YtcdocklbpfdmeaaDoor
open Go.RowKit
/-- The element types that are never turned. -/
def ktT (t : TypeId) : Bool := t == 5 || t == 46 || t == 35 || t == 42
structure Kt (w w' : World) : Prop where
  size : w.heap.size ≤ w'.heap.size
  same : ∀ (g : Nat) (cs : Array Value) (t : TypeId) (fr : Nat × Nat), w.heap[g]? = some (.cells cs t fr) → ktT t = true → w'.heap[g]? = some (.cells cs t fr)
structure St (w w' : World) : Prop where
  size : w.heap.size = w'.heap.size
  same : ∀ (g : Nat) (cs : Array Value) (t : TypeId) (fr : Nat × Nat), w.heap[g]? = some (.cells cs t fr) → ktT t = true → w'.heap[g]? = some (.cells cs t fr)
theorem Kt.refl (w : World) : Kt w w := ⟨Nat.le_refl _, fun _ _ _ _ h _ => h⟩
theorem St.refl (w : World) : St w w := ⟨rfl, fun _ _ _ _ h _ => h⟩
theorem Kt.trans {a b c : World} (h : Kt a b) (k : Kt b c) : Kt a c := ⟨Nat.le_trans h.size k.size, fun g cs t fr h1 h2 => k.same _ _ _ _ (h.same _ _ _ _ h1 h2) h2⟩
theorem Kt.ofEx {w w' : World} (k : Ex w w') : Kt w w' := ⟨by obtain ⟨X, rfl⟩ := k; rw [wx_size]; omega, fun g cs t fr h _ => ex_block k h⟩
theorem Kt.ofSt {w w' : World} (k : St w w') : Kt w w' := ⟨Nat.le_of_eq k.size, k.same⟩
theorem Kt.allocR {u w : World} (h : Kt u w) (o : Obj) : Kt u (w.alloc o) := h.trans (Kt.ofEx (ex_alloc (ex_refl _) _))
theorem Kt.wxR {u w : World} (h : Kt u w) (X : More) : Kt u (wx w X) := h.trans (Kt.ofEx ⟨X, rfl⟩)
theorem Kt.appR {u w : World} {X : More} (h : Kt u (wx w X)) (Y : More) : Kt u (wx w (X.app Y)) := h.trans (Kt.ofEx (ex_app w X Y))
theorem alloc_heapT (w : World) (o : Obj) (k : Nat) : (w.alloc o).heap[k]? = if k < w.heap.size then w.heap[k]? else if k = w.heap.size then some o else none := by
  split
  · have h := ‹k < w.heap.size›
    obtain ⟨X, hX⟩ := ex_alloc (ex_refl w) o
    rw [hX, wx_heap w X k h]
  · split
    · rename_i h; subst h; exact heap_alloc_new w o
    · rename_i h1 h2
      refine Array.getElem?_eq_none ?_
      have : (w.alloc o).heap.size = w.heap.size + 1 := by simp [go_sem]
      omega
theorem wx_heapT (w : World) (X : More) (k : Nat) : (wx w X).heap[k]? = if k < w.heap.size then w.heap[k]? else X.blocks[k - w.heap.size]? := by
  split
  · exact wx_heap w X k ‹_›
  · rename_i h
    have := wx_heap_more w X (k - w.heap.size)
    rw [show w.heap.size + (k - w.heap.size) = k by omega] at this
    exact this
theorem St.wx {u w : World} (h : St u w) (X : More) : St (wx u X) (wx w X) := by
  refine ⟨by rw [wx_size, wx_size, h.size], fun g cs t fr h1 h2 => ?_⟩
  rw [wx_heapT] at h1 ⊢
  rw [← h.size]
  split
  · rename_i hg; rw [if_pos hg] at h1; exact h.same _ _ _ _ h1 h2
  · rename_i hg; rw [if_neg hg] at h1; exact h1
theorem St.alloc {u w : World} (h : St u w) (o : Obj) : St (u.alloc o) (w.alloc o) := by
  have h1 : (u.alloc o).heap.size = u.heap.size + 1 := by simp [go_sem]
  have h2 : (w.alloc o).heap.size = w.heap.size + 1 := by simp [go_sem]
  refine ⟨by rw [h1, h2, h.size], fun g cs t fr h3 h4 => ?_⟩
  rw [alloc_heapT] at h3 ⊢
  rw [← h.size]
  split
  · rename_i hg; rw [if_pos hg] at h3; exact h.same _ _ _ _ h3 h4
  · rename_i hg; rw [if_neg hg] at h3; exact h3
theorem St.turn {u w : World} {cs cs' : Array Value} {t : TypeId} {fr fr' : Nat × Nat} (h : St u w) (ht : ktT t = false) : St (u.alloc (.cells cs t fr)) (w.alloc (.cells cs' t fr')) := by
  have h1 : ∀ o, (u.alloc o).heap.size = u.heap.size + 1 := fun o => by simp [go_sem]
  have h2 : ∀ o, (w.alloc o).heap.size = w.heap.size + 1 := fun o => by simp [go_sem]
  refine ⟨by rw [h1, h2, h.size], fun g cs2 t2 fr2 h3 h4 => ?_⟩
  rw [alloc_heapT] at h3 ⊢
  rw [← h.size]
  split
  · rename_i hg; rw [if_pos hg] at h3; exact h.same _ _ _ _ h3 h4
  · rename_i hg
    rw [if_neg hg] at h3
    split at h3
    · cases h3; rw [ht] at h4; cases h4
    · cases h3
theorem OwnU.kt {w w' : World} {v : Value} {l : List UInt8} (h : OwnU w v l) (k : Kt w w') : OwnU w' v l := by
  refine ⟨h.1, ?_⟩
  rcases h.2 with h2 | ⟨g, cap, cur, h1, h2, h3, h4⟩
  · exact Or.inl h2
  · exact Or.inr ⟨g, cap, cur, h1, h2, k.same _ _ _ _ h3 (by decide), h4⟩
theorem owns_kt {w w' : World} {Z n s : Nat} {t : TypeId} {v : Value} {vs : List Value} (h : w.ownsRow Z t s v n vs) (ht : ktT t = true) (k : Kt w w') : w'.ownsRow Z t s v n vs := by
  refine ⟨h.1, ?_⟩
  rcases h.2 with h2 | ⟨g, cap, cur, h1, h2, h3, h4⟩
  · exact Or.inl h2
  · exact Or.inr ⟨g, cap, cur, h1, h2, k.same _ _ _ _ h3 ht, h4⟩
theorem OwnD.kt {w w' : World} {Z : Nat} {v : Value} {l : List Dg} (h : OwnD w Z v l) (k : Kt w w') : OwnD w' Z v l := owns_kt h (by decide) k
theorem OwnLs.kt {w w' : World} {Z : Nat} {v : Value} {l : List (List UInt8)} (h : OwnLs w Z v l) (k : Kt w w') : OwnLs w' Z v l := by
  obtain ⟨vs, h1, h2, h3⟩ := h.out
  exact ⟨vs, h1, owns_kt h2 (by decide) k, fun i hi b hb => (h3 i hi b hb).kt k⟩
theorem ClS.kt {w w' : World} {sa sb : Value} {c : Cl} (h : ClS w sa sb c) (k : Kt w w') : ClS w' sa sb c := by
  cases c with
  | none => exact h
  | some x => exact ⟨h.1.kt k, h.2.kt k⟩
theorem sameClash_o {sa sb sc sd : Value} {o : Cl} {w : World} (h1 : ClS w sa sb o) (h2 : ClS w sc sd o) :
    Calls Tryd.prog 34 #[.agg #[sa, sb], .agg #[sc, sd]] w (Post w (.bool true)) := by
  cases o with
  | none =>
    obtain ⟨rfl, rfl⟩ := h1
    obtain ⟨rfl, rfl⟩ := h2
    have := sameClash_any (a := ([], [])) (b := ([], [])) (slt_nil w) (slt_nil w) (slt_nil w) (slt_nil w)
    rwa [decide_eq_true rfl] at this
  | some x =>
    have := sameClash_any (a := x) (b := x) h1.1.slt h1.2.slt h2.1.slt h2.2.slt
    rwa [decide_eq_true rfl] at this
theorem cellsN_exF {w w' : World} {b o n : Nat} {cs : Array Value} (h : cellsN w b o n = some cs) (hb : b < w.heap.size) (k : Ex w w') : cellsN w' b o n = some cs := by
  obtain ⟨X, rfl⟩ := k
  obtain ⟨h1, h2⟩ := cellsN_some.1 h
  refine cellsN_some.2 ⟨h1, fun j hj => ?_⟩
  rw [wx_cell w X _ hb]
  exact h2 j hj
/-- A slice of claims that came in. -/
structure SlCm (w : World) (a : Option Addr) (n : Nat) : Prop where
  out : n = 0 ∨ ∃ g off, a = some ⟨g, off, none⟩ ∧ g < w.heap.size ∧ ∀ i, i < n → ∃ (j : Int) (bv : Value) (b : List UInt8) (pa : Option Addr) (path : List Dg) (pc : Nat), cellsN w g (off + i * 3) 3 = some #[I j, bv, .slice pa path.length pc] ∧ SlT w bv b ∧ path.length ≤ pc ∧ pc ≤ maxLen ∧ (pa = none → pc = 0) ∧ SlD w pa path
theorem SlCm.ex {w w' : World} {a : Option Addr} {n : Nat} (h : SlCm w a n) (k : Ex w w') : SlCm w' a n := by
  rcases h.out with rfl | ⟨g, off, rfl, hg, hi⟩
  · exact ⟨Or.inl rfl⟩
  · refine ⟨Or.inr ⟨g, off, rfl, by obtain ⟨X, rfl⟩ := k; rw [wx_size]; omega, fun i h => ?_⟩⟩
    obtain ⟨j, bv, b, pa, path, pc, h1, h2, h3, h4, h5, h6⟩ := hi i h
    exact ⟨j, bv, b, pa, path, pc, cellsN_exF h1 hg k, h2.ex k, h3, h4, h5, h6.ex k⟩
end Go.Proofs.YtcdocklbpfdmeaaDoor
