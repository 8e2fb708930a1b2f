import Derived.Test.YtcdocklbpfdmeaaDoorMFork
import Derived.Test.YtcdocklbpfdmeaaDoorMLaC
import Derived.Test.YtcdocklbpfdmeaaDoorMGlob

/- A region that draws its order, over an elder world, where up to three things that make may come up at once: a tree of orders. Over whatever program. -/
set_option linter.unusedSimpArgs false
set_option linter.unusedVariables false
set_option maxRecDepth 20000
namespace Go.Proofs.YtcdocklbpfdmeaaDoor
open Go.RowKit
/-- A tree of orders: by index; by operation. -/
inductive Fj where
  | done
  | look (i : Nat) (r : Fj)
  | eff (i : Nat) (r : Fj)
  | fork (i : Nat) (x : Fj) (j : Nat) (y : Fj)
  | three (i : Nat) (x : Fj) (j : Nat) (y : Fj) (k : Nat) (z : Fj)
inductive FjO where
  | done
  | look (o : Oper) (r : FjO)
  | eff (o : Oper) (r : FjO)
  | fork (o : Oper) (x : FjO) (p : Oper) (y : FjO)
  | three (o : Oper) (x : FjO) (p : Oper) (y : FjO) (q : Oper) (z : FjO)
def Fj.len : Fj → Nat
  | .done => 0
  | .look _ r => r.len + 1
  | .eff _ r => r.len + 1
  | .fork _ x _ _ => x.len + 1
  | .three _ x _ _ _ _ => x.len + 1
def Fj.fits (n : Nat) : Fj → Bool
  | .done => true
  | .look i r => decide (i < n) && r.fits n
  | .eff i r => decide (i < n) && r.fits n
  | .fork i x j y => decide (i < n) && decide (j < n) && (x.len == y.len) && x.fits n && y.fits n
  | .three i x j y k z => decide (i < n) && decide (j < n) && decide (k < n) && (x.len == y.len) && (x.len == z.len) && x.fits n && y.fits n && z.fits n
def Fj.ops (l : List Oper) : Fj → FjO
  | .done => .done
  | .look i r => .look (nth l i) (r.ops l)
  | .eff i r => .eff (nth l i) (r.ops l)
  | .fork i x j y => .fork (nth l i) (x.ops l) (nth l j) (y.ops l)
  | .three i x j y k z => .three (nth l i) (x.ops l) (nth l j) (y.ops l) (nth l k) (z.ops l)
section
variable {P : Program} {ops : Array Oper} {Q : Exit → Act → World → Prop} {md : Region.Mode}
def wpForkJ (P : Program) (ops : Array Oper) (Q : Exit → Act → World → Prop) (A : World) : FjO → Act → World → Prop
  | .done, a, w => Q .normal a w
  | .look o r, a, w => if Region.wanted o (yielded ops a.tmps) then o.quiet P a (Ex A) (fun a' => wpForkJ P ops Q A r a' w) else wpForkJ P ops Q A r (a.put o.dst undef) w
  | .eff o r, a, w => effT P ops Q A o (wpForkJ P ops Q A r) a w
  | .fork o x p y, a, w => effT P ops Q A o (wpForkJ P ops Q A x) a w ∧ effT P ops Q A p (wpForkJ P ops Q A y) a w
  | .three o x p y q z, a, w => effT P ops Q A o (wpForkJ P ops Q A x) a w ∧ effT P ops Q A p (wpForkJ P ops Q A y) a w ∧ effT P ops Q A q (wpForkJ P ops Q A z) a w
theorem wpForkJ_look {A : World} {o : Oper} {r : FjO} {a : Act} {w : World}
    (h : wpQuiet P ops (fun w' => ∃ X, w' = wx A X) (fun a' => wpForkJ P ops Q A r a' w) [o] a) : wpForkJ P ops Q A (.look o r) a w := h
theorem wpForkJ_eff {A : World} {o : Oper} {r : FjO} {a : Act} {w : World} (h : effT P ops Q A o (wpForkJ P ops Q A r) a w) : wpForkJ P ops Q A (.eff o r) a w := h
theorem wpForkJ_fork {A : World} {o p : Oper} {x y : FjO} {a : Act} {w : World} (h : effT P ops Q A o (wpForkJ P ops Q A x) a w) (k : effT P ops Q A p (wpForkJ P ops Q A y) a w) : wpForkJ P ops Q A (.fork o x p y) a w := ⟨h, k⟩
theorem wpForkJ_three {A : World} {o p q : Oper} {x y z : FjO} {a : Act} {w : World} (h : effT P ops Q A o (wpForkJ P ops Q A x) a w) (k : effT P ops Q A p (wpForkJ P ops Q A y) a w) (m : effT P ops Q A q (wpForkJ P ops Q A z) a w) : wpForkJ P ops Q A (.three o x p y q z) a w := ⟨h, k, m⟩
theorem wpForkJ_nil {A : World} {a : Act} {w : World} (h : Q .normal a w) : wpForkJ P ops Q A .done a w := h
def forkJOk (md : Region.Mode) (ops : Array Oper) : Fj → Array Bool → Bool
  | .done, listed => Region.ready md ops listed == []
  | .look i r, listed => (Region.ready md ops listed).contains i && (Region.free md ops listed i && ((ops[i]?).map (fun o => isLook o.op)).getD false) && forkJOk md ops r (listed.setIfInBounds i true)
  | .eff i r, listed => Region.ready md ops listed == [i] && forkJOk md ops r (listed.setIfInBounds i true)
  | .three i x j y k z, listed => Region.ready md ops listed == [i, j, k] && forkJOk md ops x (listed.setIfInBounds i true) && forkJOk md ops y (listed.setIfInBounds j true) && forkJOk md ops z (listed.setIfInBounds k true)
  | .fork i x j y, listed => Region.ready md ops listed == [i, j] && forkJOk md ops x (listed.setIfInBounds i true) && forkJOk md ops y (listed.setIfInBounds j true)
theorem wpAnyH_forkJ {A : World} {l : List Oper} (hl : l.toArray = ops) (hsel : Region.noSelect ops = true) (hQ : ∀ c a d v w, Q (.panic c) (a.put d v) w → Q (.panic c) a w) :
    ∀ (t : Fj) (listed : Array Bool) (a : Act) (w : World), t.fits l.length = true → forkJOk md ops t listed = true → Ex A w →
      wpForkJ P ops Q A (t.ops l) a w → wpAnyH P md ops Q (Ex A) t.len listed a w := by
  subst hl
  intro t
  induction t with
  | done => exact fun listed a w _ hB hA h => wpAnyH_done (by simpa [forkJOk] using hB) h _
  | look i r ih =>
    intro listed a w hF hB hA h
    simp only [Fj.fits, Bool.and_eq_true, decide_eq_true_eq] at hF
    simp only [forkJOk, Bool.and_eq_true] at hB
    obtain ⟨⟨hr, hf, hk⟩, hB'⟩ := hB
    have ho := nth_get l i hF.1
    have hl' : isLook (nth l i).op = true := by simpa [ho] using hk
    have hst : ∃ v, YieldsIf P l.toArray (Ex A) (nth l i) v a ∧ wpForkJ P l.toArray Q A (r.ops l) (a.put (nth l i).dst v) w := by
      unfold Fj.ops wpForkJ at h
      by_cases hw : Region.wanted (nth l i) (yielded l.toArray a.tmps) = true
      · rw [if_pos hw] at h
        obtain ⟨v, h1, h2⟩ := h
        refine ⟨v, .inl ⟨hw, fun w' hw' => ?_⟩, h2⟩
        have h3 := h1 w' hw'
        unfold Oper.quietAt at h3
        cases hrun : (execOp a.eval (nth l i)).run P w' with
        | ok x w1 =>
          obtain ⟨u, rfl⟩ := look_value hl' a.eval w' x w1 hrun
          rw [hrun] at h3
          simp only [Oper.quietUpon] at h3
          rw [h3.1, h3.2]
        | halt x w1 => rw [hrun] at h3; exact h3.elim
      · rw [if_neg hw] at h
        exact ⟨undef, .inr ⟨by simpa using hw, rfl⟩, h⟩
    obtain ⟨v, hy, hK⟩ := hst
    exact wpAnyH_take ho hsel hf hr (fun c a w => hQ c a _ _ w) hy hA (ih _ _ _ hF.2 hB' hA hK)
  | eff i r ih =>
    intro listed a w hF hB hA h
    simp only [Fj.fits, Bool.and_eq_true, decide_eq_true_eq] at hF
    simp only [forkJOk, Bool.and_eq_true, beq_iff_eq] at hB
    obtain ⟨hk, hB'⟩ := hB
    refine wpAnyH_all hk (by simp) fun j hj => ?_
    have hji : j = i := by simpa using hj
    subst hji
    exact wpOp_mono (fun a' w' h' => ⟨h'.1, ih _ _ _ hF.2 hB' h'.1 h'.2⟩) (effT_op (nth_get l j hF.1) hA h)
  | fork i x j y ihx ihy =>
    intro listed a w hF hB hA h
    simp only [Fj.fits, Bool.and_eq_true, decide_eq_true_eq, beq_iff_eq] at hF
    obtain ⟨⟨⟨⟨hi, hj⟩, hlen⟩, hfx⟩, hfy⟩ := hF
    simp only [forkJOk, Bool.and_eq_true, beq_iff_eq] at hB
    obtain ⟨⟨hk, hBx⟩, hBy⟩ := hB
    refine wpAnyH_all hk (by simp) fun q hq => ?_
    have hq2 : q = i ∨ q = j := by simpa using hq
    rcases hq2 with rfl | rfl
    · exact wpOp_mono (fun a' w' h' => ⟨h'.1, ihx _ _ _ hfx hBx h'.1 h'.2⟩) (effT_op (nth_get l q hi) hA h.1)
    · refine wpOp_mono (fun a' w' h' => ⟨h'.1, ?_⟩) (effT_op (nth_get l q hj) hA h.2)
      show wpAnyH P md l.toArray Q (Ex A) x.len _ a' w'
      rw [hlen]
      exact ihy _ _ _ hfy hBy h'.1 h'.2
  | three i x j y k z ihx ihy ihz =>
    intro listed a w hF hB hA h
    simp only [Fj.fits, Bool.and_eq_true, decide_eq_true_eq, beq_iff_eq] at hF
    obtain ⟨⟨⟨⟨⟨⟨⟨hi, hj⟩, hk'⟩, hlen⟩, hlen2⟩, hfx⟩, hfy⟩, hfz⟩ := hF
    simp only [forkJOk, Bool.and_eq_true, beq_iff_eq] at hB
    obtain ⟨⟨⟨hk, hBx⟩, hBy⟩, hBz⟩ := hB
    refine wpAnyH_all hk (by simp) fun q hq => ?_
    have hq2 : q = i ∨ q = j ∨ q = k := by simpa using hq
    rcases hq2 with rfl | rfl | rfl
    · exact wpOp_mono (fun a' w' h' => ⟨h'.1, ihx _ _ _ hfx hBx h'.1 h'.2⟩) (effT_op (nth_get l q hi) hA h.1)
    · refine wpOp_mono (fun a' w' h' => ⟨h'.1, ?_⟩) (effT_op (nth_get l q hj) hA h.2.1)
      show wpAnyH P md l.toArray Q (Ex A) x.len _ a' w'
      rw [hlen]
      exact ihy _ _ _ hfy hBy h'.1 h'.2
    · refine wpOp_mono (fun a' w' h' => ⟨h'.1, ?_⟩) (effT_op (nth_get l q hk') hA h.2.2)
      show wpAnyH P md l.toArray Q (Ex A) x.len _ a' w'
      rw [hlen2]
      exact ihz _ _ _ hfz hBz h'.1 h'.2
/-- **A tree of orders serves every order.** -/
theorem wp_region_forkJ {id : Nat} {a : Act} {w : World} {l : List Oper} (A : World) (t : Fj) (hA : Ex A w.drew) (hm : P.follows .mixedOrders = true)
    (hB : (Region.noSelect l.toArray && t.len == l.toArray.size && t.fits l.length && forkJOk .any l.toArray t (Array.replicate l.toArray.size false)) = true)
    (hQ : ∀ c a d v w, Q (.panic c) (a.put d v) w → Q (.panic c) a w)
    (h : wpForkJ P l.toArray Q A (t.ops l) a w.drew) : (Code.region id l.toArray true).wp P Q a w := by
  simp only [Bool.and_eq_true, beq_iff_eq] at hB
  obtain ⟨⟨⟨hsel, hlen⟩, hall⟩, hseq⟩ := hB
  refine wp_region_held (S := Ex A) hm ?_
  have H := wpAnyH_forkJ (md := .any) (P := P) (A := A) rfl hsel hQ t (Array.replicate l.toArray.size false) a w.drew hall hseq hA h
  rwa [hlen] at H
end
/-- What holds in the midst: the rest is walked once. -/
theorem wp_mid {P : Program} {c : Code} {K : Act → World → Prop} {Q : Exit → Act → World → Prop} {a : Act} {w : World} (R : Act → Act → World → Prop)
    (h1 : c.wp P (Exit.then (R a) Q) a w) (h2 : ∀ a' w', R a a' w' → Exit.then K Q .normal a' w') : c.wp P (Exit.then K Q) a w := by
  refine Code.wp_mono (fun x a' w' h => ?_) h1
  cases x <;> first | exact h2 _ _ h | exact h
end Go.Proofs.YtcdocklbpfdmeaaDoor

/- Collide's laws: what is kept where a variable's block turns; claims that came in; clashes that are the same. -/
set_option linter.unusedSimpArgs false
set_option linter.unusedVariables false
set_option linter.unnecessarySimpa false
set_option maxRecDepth 20000
namespace Go.Proofs.YtcdocklbpfdmeaaDoor
open Go.RowKit
/-- The element types that are never turned. -/
def ktT (t : TypeId) : Bool := t == 5 || t == 46 || t == 35 || t == 42
structure Kt (w w' : World) : Prop where
  size : w.heap.size ≤ w'.heap.size
  same : ∀ (g : Nat) (cs : Array Value) (t : TypeId) (fr : Nat × Nat), w.heap[g]? = some (.cells cs t fr) → ktT t = true → w'.heap[g]? = some (.cells cs t fr)
structure St (w w' : World) : Prop where
  size : w.heap.size = w'.heap.size
  same : ∀ (g : Nat) (cs : Array Value) (t : TypeId) (fr : Nat × Nat), w.heap[g]? = some (.cells cs t fr) → ktT t = true → w'.heap[g]? = some (.cells cs t fr)
theorem Kt.refl (w : World) : Kt w w := ⟨Nat.le_refl _, fun _ _ _ _ h _ => h⟩
theorem St.refl (w : World) : St w w := ⟨rfl, fun _ _ _ _ h _ => h⟩
theorem Kt.trans {a b c : World} (h : Kt a b) (k : Kt b c) : Kt a c := ⟨Nat.le_trans h.size k.size, fun g cs t fr h1 h2 => k.same _ _ _ _ (h.same _ _ _ _ h1 h2) h2⟩
theorem Kt.ofEx {w w' : World} (k : Ex w w') : Kt w w' := ⟨by obtain ⟨X, rfl⟩ := k; rw [wx_size]; omega, fun g cs t fr h _ => ex_block k h⟩
theorem Kt.ofSt {w w' : World} (k : St w w') : Kt w w' := ⟨Nat.le_of_eq k.size, k.same⟩
theorem Kt.allocR {u w : World} (h : Kt u w) (o : Obj) : Kt u (w.alloc o) := h.trans (Kt.ofEx (ex_alloc (ex_refl _) _))
theorem Kt.wxR {u w : World} (h : Kt u w) (X : More) : Kt u (wx w X) := h.trans (Kt.ofEx ⟨X, rfl⟩)
theorem Kt.appR {u w : World} {X : More} (h : Kt u (wx w X)) (Y : More) : Kt u (wx w (X.app Y)) := h.trans (Kt.ofEx (ex_app w X Y))
theorem alloc_heapT (w : World) (o : Obj) (k : Nat) : (w.alloc o).heap[k]? = if k < w.heap.size then w.heap[k]? else if k = w.heap.size then some o else none := by
  split
  · have h := ‹k < w.heap.size›
    obtain ⟨X, hX⟩ := ex_alloc (ex_refl w) o
    rw [hX, wx_heap w X k h]
  · split
    · rename_i h; subst h; exact heap_alloc_new w o
    · rename_i h1 h2
      refine Array.getElem?_eq_none ?_
      have : (w.alloc o).heap.size = w.heap.size + 1 := by simp [go_sem]
      omega
theorem wx_heapT (w : World) (X : More) (k : Nat) : (wx w X).heap[k]? = if k < w.heap.size then w.heap[k]? else X.blocks[k - w.heap.size]? := by
  split
  · exact wx_heap w X k ‹_›
  · rename_i h
    have := wx_heap_more w X (k - w.heap.size)
    rw [show w.heap.size + (k - w.heap.size) = k by omega] at this
    exact this
theorem St.wx {u w : World} (h : St u w) (X : More) : St (wx u X) (wx w X) := by
  refine ⟨by rw [wx_size, wx_size, h.size], fun g cs t fr h1 h2 => ?_⟩
  rw [wx_heapT] at h1 ⊢
  rw [← h.size]
  split
  · rename_i hg; rw [if_pos hg] at h1; exact h.same _ _ _ _ h1 h2
  · rename_i hg; rw [if_neg hg] at h1; exact h1
theorem St.alloc {u w : World} (h : St u w) (o : Obj) : St (u.alloc o) (w.alloc o) := by
  have h1 : (u.alloc o).heap.size = u.heap.size + 1 := by simp [go_sem]
  have h2 : (w.alloc o).heap.size = w.heap.size + 1 := by simp [go_sem]
  refine ⟨by rw [h1, h2, h.size], fun g cs t fr h3 h4 => ?_⟩
  rw [alloc_heapT] at h3 ⊢
  rw [← h.size]
  split
  · rename_i hg; rw [if_pos hg] at h3; exact h.same _ _ _ _ h3 h4
  · rename_i hg; rw [if_neg hg] at h3; exact h3
theorem St.turn {u w : World} {cs cs' : Array Value} {t : TypeId} {fr fr' : Nat × Nat} (h : St u w) (ht : ktT t = false) : St (u.alloc (.cells cs t fr)) (w.alloc (.cells cs' t fr')) := by
  have h1 : ∀ o, (u.alloc o).heap.size = u.heap.size + 1 := fun o => by simp [go_sem]
  have h2 : ∀ o, (w.alloc o).heap.size = w.heap.size + 1 := fun o => by simp [go_sem]
  refine ⟨by rw [h1, h2, h.size], fun g cs2 t2 fr2 h3 h4 => ?_⟩
  rw [alloc_heapT] at h3 ⊢
  rw [← h.size]
  split
  · rename_i hg; rw [if_pos hg] at h3; exact h.same _ _ _ _ h3 h4
  · rename_i hg
    rw [if_neg hg] at h3
    split at h3
    · cases h3; rw [ht] at h4; cases h4
    · cases h3
theorem OwnU.kt {w w' : World} {v : Value} {l : List UInt8} (h : OwnU w v l) (k : Kt w w') : OwnU w' v l := by
  refine ⟨h.1, ?_⟩
  rcases h.2 with h2 | ⟨g, cap, cur, h1, h2, h3, h4⟩
  · exact Or.inl h2
  · exact Or.inr ⟨g, cap, cur, h1, h2, k.same _ _ _ _ h3 (by decide), h4⟩
theorem owns_kt {w w' : World} {Z n s : Nat} {t : TypeId} {v : Value} {vs : List Value} (h : w.ownsRow Z t s v n vs) (ht : ktT t = true) (k : Kt w w') : w'.ownsRow Z t s v n vs := by
  refine ⟨h.1, ?_⟩
  rcases h.2 with h2 | ⟨g, cap, cur, h1, h2, h3, h4⟩
  · exact Or.inl h2
  · exact Or.inr ⟨g, cap, cur, h1, h2, k.same _ _ _ _ h3 ht, h4⟩
theorem OwnD.kt {w w' : World} {Z : Nat} {v : Value} {l : List Dg} (h : OwnD w Z v l) (k : Kt w w') : OwnD w' Z v l := owns_kt h (by decide) k
theorem OwnLs.kt {w w' : World} {Z : Nat} {v : Value} {l : List (List UInt8)} (h : OwnLs w Z v l) (k : Kt w w') : OwnLs w' Z v l := by
  obtain ⟨vs, h1, h2, h3⟩ := h.out
  exact ⟨vs, h1, owns_kt h2 (by decide) k, fun i hi b hb => (h3 i hi b hb).kt k⟩
theorem ClS.kt {w w' : World} {sa sb : Value} {c : Cl} (h : ClS w sa sb c) (k : Kt w w') : ClS w' sa sb c := by
  cases c with
  | none => exact h
  | some x => exact ⟨h.1.kt k, h.2.kt k⟩
theorem sameClash_o {sa sb sc sd : Value} {o : Cl} {w : World} (h1 : ClS w sa sb o) (h2 : ClS w sc sd o) :
    Calls Tryd.prog 34 #[.agg #[sa, sb], .agg #[sc, sd]] w (Post w (.bool true)) := by
  cases o with
  | none =>
    obtain ⟨rfl, rfl⟩ := h1
    obtain ⟨rfl, rfl⟩ := h2
    have := sameClash_any (a := ([], [])) (b := ([], [])) (slt_nil w) (slt_nil w) (slt_nil w) (slt_nil w)
    rwa [decide_eq_true rfl] at this
  | some x =>
    have := sameClash_any (a := x) (b := x) h1.1.slt h1.2.slt h2.1.slt h2.2.slt
    rwa [decide_eq_true rfl] at this
theorem cellsN_exF {w w' : World} {b o n : Nat} {cs : Array Value} (h : cellsN w b o n = some cs) (hb : b < w.heap.size) (k : Ex w w') : cellsN w' b o n = some cs := by
  obtain ⟨X, rfl⟩ := k
  obtain ⟨h1, h2⟩ := cellsN_some.1 h
  refine cellsN_some.2 ⟨h1, fun j hj => ?_⟩
  rw [wx_cell w X _ hb]
  exact h2 j hj
/-- A slice of claims that came in. -/
structure SlCm (w : World) (a : Option Addr) (n : Nat) : Prop where
  out : n = 0 ∨ ∃ g off, a = some ⟨g, off, none⟩ ∧ g < w.heap.size ∧ ∀ i, i < n → ∃ (j : Int) (bv : Value) (b : List UInt8) (pa : Option Addr) (path : List Dg) (pc : Nat), cellsN w g (off + i * 3) 3 = some #[I j, bv, .slice pa path.length pc] ∧ SlT w bv b ∧ path.length ≤ pc ∧ pc ≤ maxLen ∧ (pa = none → pc = 0) ∧ SlD w pa path
theorem SlCm.ex {w w' : World} {a : Option Addr} {n : Nat} (h : SlCm w a n) (k : Ex w w') : SlCm w' a n := by
  rcases h.out with rfl | ⟨g, off, rfl, hg, hi⟩
  · exact ⟨Or.inl rfl⟩
  · refine ⟨Or.inr ⟨g, off, rfl, by obtain ⟨X, rfl⟩ := k; rw [wx_size]; omega, fun i h => ?_⟩⟩
    obtain ⟨j, bv, b, pa, path, pc, h1, h2, h3, h4, h5, h6⟩ := hi i h
    exact ⟨j, bv, b, pa, path, pc, cellsN_exF h1 hg k, h2.ex k, h3, h4, h5, h6.ex k⟩
end Go.Proofs.YtcdocklbpfdmeaaDoor

/- CollideClaims: the law. -/
set_option linter.unusedSimpArgs false
set_option linter.unusedVariables false
set_option linter.unnecessarySimpa false
set_option maxRecDepth 20000
namespace Go.Proofs.YtcdocklbpfdmeaaDoor
open Go.RowKit
theorem info_list : (Tryd.prog.info? 63).map (·.size) = some 2 := by kernel_rfl
@[go_sem] theorem load_list (b o : Nat) (w : World) : loadRun Tryd.prog 63 (.pointer (some ⟨b, o, none⟩)) w = match cellsN w b o 2 with | some cs => .ok (.value (.agg cs)) w | none => loadRaw Tryd.prog 63 (.pointer (some ⟨b, o, none⟩)) w := loadRun_row Tryd.underlying63 rfl info_list b o w
@[go_sem] theorem store_list (b o : Nat) (vs : Array Value) (w : World) : storeRun Tryd.prog 63 (.pointer (some ⟨b, o, none⟩)) (.agg vs) w = if (vs.size == 2 && (cellsN w b o 2).isSome && !frozenN w b o 2 && oneCells vs) = true then .ok .skip (w.setCells b o vs.toList) else storeRaw Tryd.prog 63 (.pointer (some ⟨b, o, none⟩)) (.agg vs) w := storeRun_row info_list b o vs w
set_option maxHeartbeats 2000000 in
theorem claimsC_any (W : Int) (l : List (List UInt8)) (a : Option Addr) (c : Nat) (a2 : Option Addr) (n2 c2 : Nat) (w : World) (G : Glob w) (hc : l.length ≤ c) (hcm : c ≤ maxLen) (hc2 : n2 ≤ c2) (hcm2 : c2 ≤ maxLen) (hs : SlLs w a l) (hs2 : SlCm w a2 n2) :
    Calls Tryd.prog 5 #[.agg #[I W, .slice a l.length c], .slice a2 n2 c2] w (Post w (.bool true)) := by
  have HWk := Lib.hid fun w' (k : Ex w w') => wakesC_any w' (G.ex k)
  have HLv := Lib.hid fun w' (k : Ex w w') => leaves_any W l a c w' hc hcm (hs.ex k)
  have hsh := Lib.hid (lvL_short l)
  generalize lvL l = lv at HLv hsh
  generalize l.length = n at *
  unfold maxLen at hcm hcm2
  go_enter Tryd.func5, Tryd.ntmps5
  go_wp2_with (first | (go_at_call 11; (with_reducible refine (HWk.out _ (by (try show Ex _ _); repeat (first | (with_reducible exact ex_refl _) | (with_reducible assumption) | (with_reducible refine ex_drewL ?_) | (with_reducible refine ex_appR ?_ _) | (with_reducible refine ex_wx ?_ _) | (with_reducible refine ex_drew ?_) | (with_reducible refine ex_alloc ?_ _)))).mono ?_); rintro e w2 ⟨rfl, X, rfl⟩) | (go_at_call 28; (with_reducible refine (HLv.out _ (by (try show Ex _ _); repeat (first | (with_reducible exact ex_refl _) | (with_reducible assumption) | (with_reducible refine ex_drewL ?_) | (with_reducible refine ex_appR ?_ _) | (with_reducible refine ex_wx ?_ _) | (with_reducible refine ex_drew ?_) | (with_reducible refine ex_alloc ?_ _)))).mono ?_); rintro e B ⟨ov, rfl, hO, hkB⟩; obtain ⟨la, lc, rfl, hl1, hl2, hl3, hl4⟩ := hO.sl; have hwB : Ex (w.alloc (.cells #[I W, .slice a n c] 63)) B := ex_trans (by (try show Ex _ _); repeat (first | (with_reducible exact ex_refl _) | (with_reducible assumption) | (with_reducible refine ex_drewL ?_) | (with_reducible refine ex_appR ?_ _) | (with_reducible refine ex_wx ?_ _) | (with_reducible refine ex_drew ?_) | (with_reducible refine ex_alloc ?_ _))) hkB; replace hkB := Lib.hid hkB; replace hO := Lib.hid hO))
  have hs3 : SlCm B a2 n2 := hs2.ex (ex_trans (ex_alloc (ex_refl _) _) hwB)
  have hblk := ex_block hwB (heap_alloc_new w (.cells #[I W, .slice a n c] 63))
  obtain ⟨p, hp⟩ : ∃ p, w.heap.size = p := ⟨_, rfl⟩
  have hwB2 : Hid (Ex w B) := Lib.hid (ex_trans (ex_alloc (ex_refl _) _) hwB)
  rw [hp] at hblk ⊢
  obtain ⟨p2, pf2⟩ := block_cellsF (n := 2) hblk rfl
  have p0 := (block_cellF (o := 0) (v := I W) hblk rfl).1
  have pz := cell_lt p0
  clear hblk hs2 hwB hkB pf2 hp hs
  go_loopw [22] (fun i W' => ∃ k : Nat, k ≤ n2 ∧ i = I k ∧ Ex B W') (fun i _ => n2 - (intOf i).toNat)
  case atStart => exact ⟨0, by omega, rfl, (by (try show Ex _ _); repeat (first | (with_reducible exact ex_refl _) | (with_reducible assumption) | (with_reducible refine ex_drewL ?_) | (with_reducible refine ex_appR ?_ _) | (with_reducible refine ex_wx ?_ _) | (with_reducible refine ex_drew ?_) | (with_reducible refine ex_alloc ?_ _)))⟩
  case round =>
    obtain ⟨k, hk, rfl, ⟨X, rfl⟩⟩ := hrel
    by_cases hlt : k < n2
    · obtain ⟨g, off, rfl, hg, hcell⟩ := hs3.out.resolve_left (by omega)
      obtain ⟨j, bv, b, pa, path, pc, hc1, hb1, hpc, hpm, hpn, hpath⟩ := hcell k hlt
      by_cases hk6 : k = 6
      · have hk6i : ((k : Int) == 6) = true := by rw [hk6]; rfl
        obtain ⟨va, vc, rfl, _⟩ := hb1.out
        clear hk6 hcell hb1 hs3
        go_wp2
        go_ret
        exact post_mk rfl (ex_trans hwB2.out (by (try show Ex _ _); repeat (first | (with_reducible exact ex_refl _) | (with_reducible assumption) | (with_reducible refine ex_drewL ?_) | (with_reducible refine ex_appR ?_ _) | (with_reducible refine ex_wx ?_ _) | (with_reducible refine ex_drew ?_) | (with_reducible refine ex_alloc ?_ _))))
      · have hk6i : ((k : Int) == 6) = false := beq_eq_false_iff_ne.2 (by omega)
        have hbo : bv.oneCell' = true := by obtain ⟨_, _, rfl, _⟩ := hb1.out; rfl
        have HC := Lib.hid fun w' (k : Ex B w') => claim_any j path pa pc w' (hb1.ex k) hpc hpm hpn (hpath.ex k)
        unfold PostCm at HC
        have hb9 : (b.take 90).length ≤ 90 := by rw [List.length_take]; omega
        generalize b.take 90 = b9 at HC hb9
        generalize path.take 12 = p9 at HC
        generalize path.length = pn at *
        clear hcell hb1 hs3 hpath hpc hpm hpn
        go_wp2
        obtain ⟨q, hq⟩ : ∃ q, B.heap.size + X.blocks.length = q := ⟨_, rfl⟩
        obtain ⟨W5, hW5⟩ : ∃ W5, (wx B X).alloc (.cells #[I j, bv, .slice pa pn pc] 67) = W5 := ⟨_, rfl⟩
        have hk5 : Ex B W5 := by rw [← hW5]; exact (by (try show Ex _ _); repeat (first | (with_reducible exact ex_refl _) | (with_reducible assumption) | (with_reducible refine ex_drewL ?_) | (with_reducible refine ex_appR ?_ _) | (with_reducible refine ex_wx ?_ _) | (with_reducible refine ex_drew ?_) | (with_reducible refine ex_alloc ?_ _)))
        have hb5 : W5.heap[q]? = some (.cells #[I j, bv, .slice pa pn pc] 67) := by
          rw [← hW5, ← hq, ← wx_size]; exact heap_alloc_new _ _
        rw [hq, hW5]
        obtain ⟨m5, mf5⟩ := block_cellsF (n := 3) hb5 rfl
        have z5 := (Array.getElem?_eq_some_iff.1 hb5).1
        clear hb5 hW5 hq mf5
        have HC5 := Lib.hid fun w' (k : Ex W5 w') => HC.out w' (ex_trans hk5 k)
        have p5 := cellsN_exF p2 pz hk5
        have e5 := Nat.lt_of_lt_of_le pz (ex_size hk5)
        clear HC
        have tok : True := trivial
        refine wp_mid (fun a0 a' w' => ∃ (b7 b8 : Nat) (a1 : Option Addr) (c1 : Nat) (a3 : Option Addr) (c3 : Nat) (a4 : Option Addr) (c4 : Nat) (a6 : Option Addr) (c6 : Nat), a'.tmps.getD 8 undef = .pointer (some ⟨b7, 0, none⟩) ∧ a'.tmps.getD 9 undef = .pointer (some ⟨b8, 0, none⟩) ∧ a' = ((((((a0.put (some 29) (a'.tmps.getD 29 undef)).put (some 30) (a'.tmps.getD 30 undef)).put (some 31) (a'.tmps.getD 31 undef)).put (some 32) (a'.tmps.getD 32 undef)).put (some 8) (a'.tmps.getD 8 undef)).put (some 9) (a'.tmps.getD 9 undef)) ∧
          Hid (cellsN w' b7 0 3 = some #[I j, .slice a1 b9.length c1, .slice a3 p9.length c3]) ∧ Hid (cellsN w' b8 0 3 = some #[I j, .slice a4 b9.length c4, .slice a6 p9.length c6]) ∧ Hid (OwnU w' (.slice a1 b9.length c1) b9 ∧ ∃ Z, OwnD w' Z (.slice a3 p9.length c3) p9) ∧ Hid (OwnU w' (.slice a4 b9.length c4) b9 ∧ ∃ Z, OwnD w' Z (.slice a6 p9.length c6) p9) ∧ b7 < w'.heap.size ∧ b8 < w'.heap.size ∧ Hid (Ex W5 w')) ?_ ?_
        · refine wp_region_forkJ (W5) (.look 0 (.look 2 (.three 1 (.three 3 (.fork 4 (.eff 5 (.eff 6 (.eff 7 .done))) 5 (.eff 4 (.eff 6 (.eff 7 .done)))) 4 (.fork 3 (.eff 5 (.eff 6 (.eff 7 .done))) 5 (.eff 3 (.eff 6 (.eff 7 .done)))) 5 (.fork 3 (.eff 4 (.eff 6 (.eff 7 .done))) 4 (.eff 3 (.eff 6 (.eff 7 .done))))) 4 (.fork 1 (.fork 3 (.eff 5 (.eff 6 (.eff 7 .done))) 5 (.eff 3 (.eff 6 (.eff 7 .done)))) 5 (.eff 1 (.eff 3 (.eff 6 (.eff 7 .done))))) 5 (.fork 1 (.fork 3 (.eff 4 (.eff 6 (.eff 7 .done))) 4 (.eff 3 (.eff 6 (.eff 7 .done)))) 4 (.eff 1 (.eff 3 (.eff 6 (.eff 7 .done)))))))) (by (try show Ex _ _); repeat (first | (with_reducible exact ex_refl _) | (with_reducible assumption) | (with_reducible refine ex_drewL ?_) | (with_reducible refine ex_appR ?_ _) | (with_reducible refine ex_wx ?_ _) | (with_reducible refine ex_drew ?_) | (with_reducible refine ex_alloc ?_ _))) (by kernel_rfl) (by kernel_rfl) (fun _ _ d _ _ h => by cases d <;> exact h) ?_
          simp only [Fj.ops, nth]
          repeat (first | ((with_reducible refine wpForkJ_look ?_); go_big_quiet_step (fail); (try (with_reducible refine wpQuiet_nil ?_))) | (with_reducible refine wpForkJ_eff ?_) | ((with_reducible refine effT_F ?_ ?_); (focus rfl); go_simp) | ((with_reducible refine effT_T ?_ ?_); (focus rfl); (try dsimp only); go_wp2_with (first | (go_at_call 29; have _t := tok; clear tok; (with_reducible refine (HC5.out _ (by (try show Ex _ _); repeat (first | (with_reducible exact ex_refl _) | (with_reducible assumption) | (with_reducible refine ex_drewL ?_) | (with_reducible refine ex_appR ?_ _) | (with_reducible refine ex_wx ?_ _) | (with_reducible refine ex_drew ?_) | (with_reducible refine ex_alloc ?_ _)))).mono ?_); rintro e w' ⟨v1, v2, rfl, h1, h2, X1, rfl⟩; (try simp only [wx_wx, wx_drew] at h1 h2); obtain ⟨a1, c1, rfl, _⟩ := h1.slt.out; obtain ⟨a3, c3, rfl, _⟩ := h2.slg; replace h2 := Lib.hid (show ∃ Z, OwnD _ Z _ _ from ⟨_, h2⟩); replace h1 := Lib.hid h1) | (go_at_call 29; (with_reducible refine (HC5.out _ (by (try show Ex _ _); repeat (first | (with_reducible exact ex_refl _) | (with_reducible assumption) | (with_reducible refine ex_drewL ?_) | (with_reducible refine ex_appR ?_ _) | (with_reducible refine ex_wx ?_ _) | (with_reducible refine ex_drew ?_) | (with_reducible refine ex_alloc ?_ _)))).mono ?_); rintro e w' ⟨v4, v6, rfl, h4, h6, X4, rfl⟩; (try simp only [wx_wx, wx_drew] at h4 h6); obtain ⟨a4, c4, rfl, _⟩ := h4.slt.out; obtain ⟨a6, c6, rfl, _⟩ := h6.slg; replace h6 := Lib.hid (show ∃ Z, OwnD _ Z _ _ from ⟨_, h6⟩); replace h4 := Lib.hid h4)); refine mixQ_mk (by (try show Ex _ _); repeat (first | (with_reducible exact ex_refl _) | (with_reducible assumption) | (with_reducible refine ex_drewL ?_) | (with_reducible refine ex_appR ?_ _) | (with_reducible refine ex_wx ?_ _) | (with_reducible refine ex_drew ?_) | (with_reducible refine ex_alloc ?_ _))) ?_))
          all_goals (try (first | (with_reducible refine wpForkJ_fork ?_ ?_) | (with_reducible refine wpForkJ_three ?_ ?_ ?_)))
          all_goals repeat (first | ((with_reducible refine wpForkJ_look ?_); go_big_quiet_step (fail); (try (with_reducible refine wpQuiet_nil ?_))) | (with_reducible refine wpForkJ_eff ?_) | ((with_reducible refine effT_F ?_ ?_); (focus rfl); go_simp) | ((with_reducible refine effT_T ?_ ?_); (focus rfl); (try dsimp only); go_wp2_with (first | (go_at_call 29; have _t := tok; clear tok; (with_reducible refine (HC5.out _ (by (try show Ex _ _); repeat (first | (with_reducible exact ex_refl _) | (with_reducible assumption) | (with_reducible refine ex_drewL ?_) | (with_reducible refine ex_appR ?_ _) | (with_reducible refine ex_wx ?_ _) | (with_reducible refine ex_drew ?_) | (with_reducible refine ex_alloc ?_ _)))).mono ?_); rintro e w' ⟨v1, v2, rfl, h1, h2, X1, rfl⟩; (try simp only [wx_wx, wx_drew] at h1 h2); obtain ⟨a1, c1, rfl, _⟩ := h1.slt.out; obtain ⟨a3, c3, rfl, _⟩ := h2.slg; replace h2 := Lib.hid (show ∃ Z, OwnD _ Z _ _ from ⟨_, h2⟩); replace h1 := Lib.hid h1) | (go_at_call 29; (with_reducible refine (HC5.out _ (by (try show Ex _ _); repeat (first | (with_reducible exact ex_refl _) | (with_reducible assumption) | (with_reducible refine ex_drewL ?_) | (with_reducible refine ex_appR ?_ _) | (with_reducible refine ex_wx ?_ _) | (with_reducible refine ex_drew ?_) | (with_reducible refine ex_alloc ?_ _)))).mono ?_); rintro e w' ⟨v4, v6, rfl, h4, h6, X4, rfl⟩; (try simp only [wx_wx, wx_drew] at h4 h6); obtain ⟨a4, c4, rfl, _⟩ := h4.slt.out; obtain ⟨a6, c6, rfl, _⟩ := h6.slg; replace h6 := Lib.hid (show ∃ Z, OwnD _ Z _ _ from ⟨_, h6⟩); replace h4 := Lib.hid h4)); refine mixQ_mk (by (try show Ex _ _); repeat (first | (with_reducible exact ex_refl _) | (with_reducible assumption) | (with_reducible refine ex_drewL ?_) | (with_reducible refine ex_appR ?_ _) | (with_reducible refine ex_wx ?_ _) | (with_reducible refine ex_drew ?_) | (with_reducible refine ex_alloc ?_ _))) ?_))
          all_goals (try (first | (with_reducible refine wpForkJ_fork ?_ ?_) | (with_reducible refine wpForkJ_three ?_ ?_ ?_)))
          all_goals repeat (first | ((with_reducible refine wpForkJ_look ?_); go_big_quiet_step (fail); (try (with_reducible refine wpQuiet_nil ?_))) | (with_reducible refine wpForkJ_eff ?_) | ((with_reducible refine effT_F ?_ ?_); (focus rfl); go_simp) | ((with_reducible refine effT_T ?_ ?_); (focus rfl); (try dsimp only); go_wp2_with (first | (go_at_call 29; have _t := tok; clear tok; (with_reducible refine (HC5.out _ (by (try show Ex _ _); repeat (first | (with_reducible exact ex_refl _) | (with_reducible assumption) | (with_reducible refine ex_drewL ?_) | (with_reducible refine ex_appR ?_ _) | (with_reducible refine ex_wx ?_ _) | (with_reducible refine ex_drew ?_) | (with_reducible refine ex_alloc ?_ _)))).mono ?_); rintro e w' ⟨v1, v2, rfl, h1, h2, X1, rfl⟩; (try simp only [wx_wx, wx_drew] at h1 h2); obtain ⟨a1, c1, rfl, _⟩ := h1.slt.out; obtain ⟨a3, c3, rfl, _⟩ := h2.slg; replace h2 := Lib.hid (show ∃ Z, OwnD _ Z _ _ from ⟨_, h2⟩); replace h1 := Lib.hid h1) | (go_at_call 29; (with_reducible refine (HC5.out _ (by (try show Ex _ _); repeat (first | (with_reducible exact ex_refl _) | (with_reducible assumption) | (with_reducible refine ex_drewL ?_) | (with_reducible refine ex_appR ?_ _) | (with_reducible refine ex_wx ?_ _) | (with_reducible refine ex_drew ?_) | (with_reducible refine ex_alloc ?_ _)))).mono ?_); rintro e w' ⟨v4, v6, rfl, h4, h6, X4, rfl⟩; (try simp only [wx_wx, wx_drew] at h4 h6); obtain ⟨a4, c4, rfl, _⟩ := h4.slt.out; obtain ⟨a6, c6, rfl, _⟩ := h6.slg; replace h6 := Lib.hid (show ∃ Z, OwnD _ Z _ _ from ⟨_, h6⟩); replace h4 := Lib.hid h4)); refine mixQ_mk (by (try show Ex _ _); repeat (first | (with_reducible exact ex_refl _) | (with_reducible assumption) | (with_reducible refine ex_drewL ?_) | (with_reducible refine ex_appR ?_ _) | (with_reducible refine ex_wx ?_ _) | (with_reducible refine ex_drew ?_) | (with_reducible refine ex_alloc ?_ _))) ?_))
          all_goals (try (first | (with_reducible refine wpForkJ_fork ?_ ?_) | (with_reducible refine wpForkJ_three ?_ ?_ ?_)))
          all_goals repeat (first | ((with_reducible refine wpForkJ_look ?_); go_big_quiet_step (fail); (try (with_reducible refine wpQuiet_nil ?_))) | (with_reducible refine wpForkJ_eff ?_) | ((with_reducible refine effT_F ?_ ?_); (focus rfl); go_simp) | ((with_reducible refine effT_T ?_ ?_); (focus rfl); (try dsimp only); go_wp2_with (first | (go_at_call 29; have _t := tok; clear tok; (with_reducible refine (HC5.out _ (by (try show Ex _ _); repeat (first | (with_reducible exact ex_refl _) | (with_reducible assumption) | (with_reducible refine ex_drewL ?_) | (with_reducible refine ex_appR ?_ _) | (with_reducible refine ex_wx ?_ _) | (with_reducible refine ex_drew ?_) | (with_reducible refine ex_alloc ?_ _)))).mono ?_); rintro e w' ⟨v1, v2, rfl, h1, h2, X1, rfl⟩; (try simp only [wx_wx, wx_drew] at h1 h2); obtain ⟨a1, c1, rfl, _⟩ := h1.slt.out; obtain ⟨a3, c3, rfl, _⟩ := h2.slg; replace h2 := Lib.hid (show ∃ Z, OwnD _ Z _ _ from ⟨_, h2⟩); replace h1 := Lib.hid h1) | (go_at_call 29; (with_reducible refine (HC5.out _ (by (try show Ex _ _); repeat (first | (with_reducible exact ex_refl _) | (with_reducible assumption) | (with_reducible refine ex_drewL ?_) | (with_reducible refine ex_appR ?_ _) | (with_reducible refine ex_wx ?_ _) | (with_reducible refine ex_drew ?_) | (with_reducible refine ex_alloc ?_ _)))).mono ?_); rintro e w' ⟨v4, v6, rfl, h4, h6, X4, rfl⟩; (try simp only [wx_wx, wx_drew] at h4 h6); obtain ⟨a4, c4, rfl, _⟩ := h4.slt.out; obtain ⟨a6, c6, rfl, _⟩ := h6.slg; replace h6 := Lib.hid (show ∃ Z, OwnD _ Z _ _ from ⟨_, h6⟩); replace h4 := Lib.hid h4)); refine mixQ_mk (by (try show Ex _ _); repeat (first | (with_reducible exact ex_refl _) | (with_reducible assumption) | (with_reducible refine ex_drewL ?_) | (with_reducible refine ex_appR ?_ _) | (with_reducible refine ex_wx ?_ _) | (with_reducible refine ex_drew ?_) | (with_reducible refine ex_alloc ?_ _))) ?_))
          all_goals (with_reducible refine wpForkJ_nil ?_)
          all_goals
            exact ⟨_, _, a1, c1, a3, c3, a4, c4, a6, c6, rfl, rfl, by kernel_rfl, Lib.hid (by simp [go_sem] <;> (intro h9; exfalso; omega)), Lib.hid (by simp [go_sem] <;> (intro h9; exfalso; omega)), Lib.hid ⟨h1.out.kt (by repeat (first | (with_reducible exact Kt.refl _) | (with_reducible refine Kt.ofSt ?_; ((repeat (first | (with_reducible exact St.refl _) | (with_reducible refine St.wx ?_ _) | (with_reducible refine St.alloc ?_ _) | (with_reducible refine St.turn ?_ (by decide)))); done)) | (with_reducible refine Kt.allocR ?_ _) | (with_reducible refine Kt.appR ?_ _) | (with_reducible refine Kt.wxR ?_ _))), h2.out.elim fun Z h => ⟨Z, h.kt (by repeat (first | (with_reducible exact Kt.refl _) | (with_reducible refine Kt.ofSt ?_; ((repeat (first | (with_reducible exact St.refl _) | (with_reducible refine St.wx ?_ _) | (with_reducible refine St.alloc ?_ _) | (with_reducible refine St.turn ?_ (by decide)))); done)) | (with_reducible refine Kt.allocR ?_ _) | (with_reducible refine Kt.appR ?_ _) | (with_reducible refine Kt.wxR ?_ _)))⟩⟩, Lib.hid ⟨h4.out.kt (by repeat (first | (with_reducible exact Kt.refl _) | (with_reducible refine Kt.ofSt ?_; ((repeat (first | (with_reducible exact St.refl _) | (with_reducible refine St.wx ?_ _) | (with_reducible refine St.alloc ?_ _) | (with_reducible refine St.turn ?_ (by decide)))); done)) | (with_reducible refine Kt.allocR ?_ _) | (with_reducible refine Kt.appR ?_ _) | (with_reducible refine Kt.wxR ?_ _))), h6.out.elim fun Z h => ⟨Z, h.kt (by repeat (first | (with_reducible exact Kt.refl _) | (with_reducible refine Kt.ofSt ?_; ((repeat (first | (with_reducible exact St.refl _) | (with_reducible refine St.wx ?_ _) | (with_reducible refine St.alloc ?_ _) | (with_reducible refine St.turn ?_ (by decide)))); done)) | (with_reducible refine Kt.allocR ?_ _) | (with_reducible refine Kt.appR ?_ _) | (with_reducible refine Kt.wxR ?_ _)))⟩⟩, (by simp [go_sem] <;> omega), (by simp [go_sem] <;> omega), Lib.hid (by (try show Ex _ _); repeat (first | (with_reducible exact ex_refl _) | (with_reducible assumption) | (with_reducible refine ex_drewL ?_) | (with_reducible refine ex_appR ?_ _) | (with_reducible refine ex_wx ?_ _) | (with_reducible refine ex_drew ?_) | (with_reducible refine ex_alloc ?_ _)))⟩
        rintro a0 W6 ⟨b7, b8, a1, c1, a3, c3, a4, c4, a6, c6, g8, g9, ha0, hd1, hd2, hm1, hm2, hb7, hb8, hk6⟩
        rw [g8, g9] at ha0
        clear g8 g9
        generalize a0.tmps.getD 29 undef = u29 at ha0
        generalize a0.tmps.getD 30 undef = u30 at ha0
        generalize a0.tmps.getD 31 undef = u31 at ha0
        generalize a0.tmps.getD 32 undef = u32 at ha0
        subst ha0
        have hkB6 : Hid (Ex B W6) := Lib.hid (ex_trans hk5 hk6.out)
        have hkw6 : Hid (Ex w W6) := Lib.hid (ex_trans hwB2.out hkB6.out)
        have HP : Hid (cellsN W6 p 0 2 = some #[I W, .slice a n c] ∧ p < W6.heap.size) := Lib.hid ⟨cellsN_exF p2 pz hkB6.out, Nat.lt_of_lt_of_le pz (ex_size hkB6.out)⟩
        have HL6 := Lib.hid (hl4.ex hkB6.out)
        have HLv6 := Lib.hid fun w' (k : Ex W6 w') => HLv.out w' (ex_trans hkw6.out k)
        obtain ⟨r, hr⟩ : ∃ r, inclC W lv j b9 p9 = r := ⟨_, rfl⟩
        obtain ⟨o, ho⟩ : ∃ o, inclT W lv j b9 p9 = o := ⟨_, rfl⟩
        have HDI : Hid (∀ w', Ex W6 w' → Calls Tryd.prog 30 #[I W, .slice la lv.length lc, .agg #[I j, .slice a4 b9.length c4, .slice a6 p9.length c6]] w' (PostBR w' r)) := Lib.hid fun w' k => by
          obtain ⟨h1, Z, h2⟩ := hm2.out
          obtain ⟨_, _, hv, h3, h4, _, h5⟩ := h2.slg
          cases hv
          rw [← hr]
          exact dincludes_any W hb9 lv la lc j p9 a6 c6 w' hl1 hl2 (HL6.out.ex k) hsh.out (h1.slt.ex k) h3 h4 (h5.ex k)
        have HDi : Hid (∀ w', Ex W6 w' → Calls Tryd.prog 32 #[I W, .slice la lv.length lc, .agg #[I j, .slice a4 b9.length c4, .slice a6 p9.length c6]] w' (PostClT w' o)) := Lib.hid fun w' k => by
          obtain ⟨h1, Z, h2⟩ := hm2.out
          obtain ⟨_, _, hv, h3, h4, _, h5⟩ := h2.slg
          cases hv
          rw [← ho]
          exact dinclude_any W hb9 lv la lc j p9 a6 c6 w' hl1 hl2 (HL6.out.ex k) hsh.out (h1.slt.ex k) h3 h4 (h5.ex k)
        have HIn : Hid (∀ w' la lc, Ex W6 w' → lv.length ≤ lc → lc ≤ maxLen → SlLs w' la lv → Calls Tryd.prog 33 #[I W, .slice la lv.length lc, .agg #[I j, .slice a1 b9.length c1, .slice a3 p9.length c3]] w' (Post w' (.bool r.1))) := Lib.hid fun w' la lc k hl1 hl2 hl4 => by
          obtain ⟨h1, Z, h2⟩ := hm1.out
          obtain ⟨_, _, hv, h3, h4, _, h5⟩ := h2.slg
          cases hv
          rw [← hr]
          exact includes_bc W _ _ _ ⟨_, _, _, rfl, rfl, rfl⟩ fun w2 k2 => included_any G W hb9 lv la lc j p9 a3 c3 w2 hl1 hl2 (fun _ => ⟨hl4.ex k2, hsh.out⟩) rfl (fun _ => h1.slt.ex (ex_trans k k2)) h3 h4 (h5.ex (ex_trans k k2)) (ex_trans hkw6.out (ex_trans k k2))
        have HI : Hid (∀ w' la lc, Ex W6 w' → lv.length ≤ lc → lc ≤ maxLen → SlLs w' la lv → Calls Tryd.prog 31 #[I W, .slice la lv.length lc, .agg #[I j, .slice a1 b9.length c1, .slice a3 p9.length c3]] w' (PostClT w' o)) := Lib.hid fun w' la lc k hl1 hl2 hl4 => by
          obtain ⟨h1, Z, h2⟩ := hm1.out
          obtain ⟨_, _, hv, h3, h4, _, h5⟩ := h2.slg
          cases hv
          rw [← ho]
          exact include_any G W hb9 lv la lc j p9 a3 c3 w' hl1 hl2 (fun _ => ⟨hl4, hsh.out⟩) rfl (fun _ => h1.slt.ex k) h3 h4 (h5.ex k) (ex_trans hkw6.out k)
        have HE : Hid (∀ w', Ex W6 w' → Calls Tryd.prog 35 #[.slice a1 b9.length c1, .slice a4 b9.length c4] w' (Post w' (.bool true))) := Lib.hid fun w' k => by
          have := bytesEq_any (hm1.out.1.slt.ex k) (hm2.out.1.slt.ex k)
          rwa [decide_eq_true rfl] at this
        have HS : Hid (∀ w', Ex W6 w' → Calls Tryd.prog 36 #[.slice a3 p9.length c3, .slice a6 p9.length c6] w' (Post w' (.bool true))) := Lib.hid fun w' k => by
          obtain ⟨_, Z, h2⟩ := hm1.out
          obtain ⟨_, _, hv, h3, h4, _, h5⟩ := h2.slg
          cases hv
          obtain ⟨_, Z, j2⟩ := hm2.out
          obtain ⟨_, _, hv, j3, j4, _, j5⟩ := j2.slg
          cases hv
          have := same_any p9 p9 a3 a6 c3 c6 w' h3 h4 j3 j4 (h5.ex k) (j5.ex k)
          rwa [decide_eq_true rfl] at this
        obtain ⟨p6, pz6⟩ := HP.out
        have p06 : W6.cell? ⟨p, 0, none⟩ = some (I W) := (cellsN_some.1 p6).2 0 (by decide)
        have d1 := hd1.out
        have d2 := hd2.out
        clear m5 hc1 HC5 p5 e5 p2 p0 pz hd1 hd2 hl4 HLv hr ho tok z5
        go_wp2_with (go_at_call 30; (with_reducible refine (HDI.out _ (by (try show Ex _ _); repeat (first | (with_reducible exact ex_refl _) | (with_reducible assumption) | (with_reducible refine ex_drewL ?_) | (with_reducible refine ex_appR ?_ _) | (with_reducible refine ex_wx ?_ _) | (with_reducible refine ex_drew ?_) | (with_reducible refine ex_alloc ?_ _)))).mono ?_); rintro e w' ⟨cv, c', rfl, ⟨X9, rfl⟩, _, _⟩)
        have d171 : W6.cell? ⟨b7, 1, none⟩ = some (.slice a1 b9.length c1) := (cellsN_some.1 d1).2 1 (by decide)
        have d172 : W6.cell? ⟨b7, 2, none⟩ = some (.slice a3 p9.length c3) := (cellsN_some.1 d1).2 2 (by decide)
        have d271 : W6.cell? ⟨b8, 1, none⟩ = some (.slice a4 b9.length c4) := (cellsN_some.1 d2).2 1 (by decide)
        have d272 : W6.cell? ⟨b8, 2, none⟩ = some (.slice a6 p9.length c6) := (cellsN_some.1 d2).2 2 (by decide)
        refine wp_region_forkJ (W6) (.look 0 (.look 1 (.look 2 (.look 4 (.fork 3 (.fork 5 (.look 6 (.look 7 (.look 8 (.eff 9 (.eff 10 (.look 11 .done)))))) 9 (.eff 5 (.look 6 (.look 7 (.look 8 (.eff 10 (.look 11 .done))))))) 9 (.eff 3 (.eff 5 (.look 6 (.look 7 (.look 8 (.eff 10 (.look 11 .done)))))))))))) (by (try show Ex _ _); repeat (first | (with_reducible exact ex_refl _) | (with_reducible assumption) | (with_reducible refine ex_drewL ?_) | (with_reducible refine ex_appR ?_ _) | (with_reducible refine ex_wx ?_ _) | (with_reducible refine ex_drew ?_) | (with_reducible refine ex_alloc ?_ _))) (by kernel_rfl) (by kernel_rfl) (fun _ _ d _ _ h => by cases d <;> exact h) ?_
        simp only [Fj.ops, nth]
        repeat (first | ((with_reducible refine wpForkJ_look ?_); go_big_quiet_step (fail); (try (with_reducible refine wpQuiet_nil ?_))) | (with_reducible refine wpForkJ_eff ?_) | ((with_reducible refine effT_F ?_ ?_); (focus rfl); go_simp) | ((with_reducible refine effT_T ?_ ?_); (focus rfl); (try dsimp only); go_wp2_with (first | (go_at_call 28; (with_reducible refine (HLv6.out _ (by (try show Ex _ _); repeat (first | (with_reducible exact ex_refl _) | (with_reducible assumption) | (with_reducible refine ex_drewL ?_) | (with_reducible refine ex_appR ?_ _) | (with_reducible refine ex_wx ?_ _) | (with_reducible refine ex_drew ?_) | (with_reducible refine ex_alloc ?_ _)))).mono ?_); rintro e w' ⟨ov2, rfl, h5, X5, rfl⟩; (try simp only [wx_wx, wx_drew] at h5); obtain ⟨la5, lc5, rfl, f1, f2, _, f4⟩ := h5.sl; clear h5; replace f4 := Lib.hid f4) | (go_at_call 31; (with_reducible refine (HI.out _ _ _ (by (try show Ex _ _); repeat (first | (with_reducible exact ex_refl _) | (with_reducible assumption) | (with_reducible refine ex_drewL ?_) | (with_reducible refine ex_appR ?_ _) | (with_reducible refine ex_wx ?_ _) | (with_reducible refine ex_drew ?_) | (with_reducible refine ex_alloc ?_ _))) f1 f2 (f4.out.ex (by (try show Ex _ _); repeat (first | (with_reducible exact ex_refl _) | (with_reducible assumption) | (with_reducible refine ex_drewL ?_) | (with_reducible refine ex_appR ?_ _) | (with_reducible refine ex_wx ?_ _) | (with_reducible refine ex_drew ?_) | (with_reducible refine ex_alloc ?_ _))))).mono ?_); rintro e w' ⟨sa, sb, rfl, ⟨X8, rfl⟩, h8⟩; (try simp only [wx_wx, wx_drew] at h8); obtain ⟨s1, s2⟩ := h8.one; replace h8 := Lib.hid h8)); refine mixQ_mk (by (try show Ex _ _); repeat (first | (with_reducible exact ex_refl _) | (with_reducible assumption) | (with_reducible refine ex_drewL ?_) | (with_reducible refine ex_appR ?_ _) | (with_reducible refine ex_wx ?_ _) | (with_reducible refine ex_drew ?_) | (with_reducible refine ex_alloc ?_ _))) ?_))
        all_goals (try (first | (with_reducible refine wpForkJ_fork ?_ ?_) | (with_reducible refine wpForkJ_three ?_ ?_ ?_)))
        all_goals repeat (first | ((with_reducible refine wpForkJ_look ?_); go_big_quiet_step (fail); (try (with_reducible refine wpQuiet_nil ?_))) | (with_reducible refine wpForkJ_eff ?_) | ((with_reducible refine effT_F ?_ ?_); (focus rfl); go_simp) | ((with_reducible refine effT_T ?_ ?_); (focus rfl); (try dsimp only); go_wp2_with (first | (go_at_call 28; (with_reducible refine (HLv6.out _ (by (try show Ex _ _); repeat (first | (with_reducible exact ex_refl _) | (with_reducible assumption) | (with_reducible refine ex_drewL ?_) | (with_reducible refine ex_appR ?_ _) | (with_reducible refine ex_wx ?_ _) | (with_reducible refine ex_drew ?_) | (with_reducible refine ex_alloc ?_ _)))).mono ?_); rintro e w' ⟨ov2, rfl, h5, X5, rfl⟩; (try simp only [wx_wx, wx_drew] at h5); obtain ⟨la5, lc5, rfl, f1, f2, _, f4⟩ := h5.sl; clear h5; replace f4 := Lib.hid f4) | (go_at_call 31; (with_reducible refine (HI.out _ _ _ (by (try show Ex _ _); repeat (first | (with_reducible exact ex_refl _) | (with_reducible assumption) | (with_reducible refine ex_drewL ?_) | (with_reducible refine ex_appR ?_ _) | (with_reducible refine ex_wx ?_ _) | (with_reducible refine ex_drew ?_) | (with_reducible refine ex_alloc ?_ _))) f1 f2 (f4.out.ex (by (try show Ex _ _); repeat (first | (with_reducible exact ex_refl _) | (with_reducible assumption) | (with_reducible refine ex_drewL ?_) | (with_reducible refine ex_appR ?_ _) | (with_reducible refine ex_wx ?_ _) | (with_reducible refine ex_drew ?_) | (with_reducible refine ex_alloc ?_ _))))).mono ?_); rintro e w' ⟨sa, sb, rfl, ⟨X8, rfl⟩, h8⟩; (try simp only [wx_wx, wx_drew] at h8); obtain ⟨s1, s2⟩ := h8.one; replace h8 := Lib.hid h8)); refine mixQ_mk (by (try show Ex _ _); repeat (first | (with_reducible exact ex_refl _) | (with_reducible assumption) | (with_reducible refine ex_drewL ?_) | (with_reducible refine ex_appR ?_ _) | (with_reducible refine ex_wx ?_ _) | (with_reducible refine ex_drew ?_) | (with_reducible refine ex_alloc ?_ _))) ?_))
        all_goals (try (first | (with_reducible refine wpForkJ_fork ?_ ?_) | (with_reducible refine wpForkJ_three ?_ ?_ ?_)))
        all_goals repeat (first | ((with_reducible refine wpForkJ_look ?_); go_big_quiet_step (fail); (try (with_reducible refine wpQuiet_nil ?_))) | (with_reducible refine wpForkJ_eff ?_) | ((with_reducible refine effT_F ?_ ?_); (focus rfl); go_simp) | ((with_reducible refine effT_T ?_ ?_); (focus rfl); (try dsimp only); go_wp2_with (first | (go_at_call 28; (with_reducible refine (HLv6.out _ (by (try show Ex _ _); repeat (first | (with_reducible exact ex_refl _) | (with_reducible assumption) | (with_reducible refine ex_drewL ?_) | (with_reducible refine ex_appR ?_ _) | (with_reducible refine ex_wx ?_ _) | (with_reducible refine ex_drew ?_) | (with_reducible refine ex_alloc ?_ _)))).mono ?_); rintro e w' ⟨ov2, rfl, h5, X5, rfl⟩; (try simp only [wx_wx, wx_drew] at h5); obtain ⟨la5, lc5, rfl, f1, f2, _, f4⟩ := h5.sl; clear h5; replace f4 := Lib.hid f4) | (go_at_call 31; (with_reducible refine (HI.out _ _ _ (by (try show Ex _ _); repeat (first | (with_reducible exact ex_refl _) | (with_reducible assumption) | (with_reducible refine ex_drewL ?_) | (with_reducible refine ex_appR ?_ _) | (with_reducible refine ex_wx ?_ _) | (with_reducible refine ex_drew ?_) | (with_reducible refine ex_alloc ?_ _))) f1 f2 (f4.out.ex (by (try show Ex _ _); repeat (first | (with_reducible exact ex_refl _) | (with_reducible assumption) | (with_reducible refine ex_drewL ?_) | (with_reducible refine ex_appR ?_ _) | (with_reducible refine ex_wx ?_ _) | (with_reducible refine ex_drew ?_) | (with_reducible refine ex_alloc ?_ _))))).mono ?_); rintro e w' ⟨sa, sb, rfl, ⟨X8, rfl⟩, h8⟩; (try simp only [wx_wx, wx_drew] at h8); obtain ⟨s1, s2⟩ := h8.one; replace h8 := Lib.hid h8)); refine mixQ_mk (by (try show Ex _ _); repeat (first | (with_reducible exact ex_refl _) | (with_reducible assumption) | (with_reducible refine ex_drewL ?_) | (with_reducible refine ex_appR ?_ _) | (with_reducible refine ex_wx ?_ _) | (with_reducible refine ex_drew ?_) | (with_reducible refine ex_alloc ?_ _))) ?_))
        all_goals (with_reducible refine wpForkJ_nil ?_)
        all_goals
          go_wp2_with (go_at_call 32; (with_reducible refine (HDi.out _ (by (try show Ex _ _); repeat (first | (with_reducible exact ex_refl _) | (with_reducible assumption) | (with_reducible refine ex_drewL ?_) | (with_reducible refine ex_appR ?_ _) | (with_reducible refine ex_wx ?_ _) | (with_reducible refine ex_drew ?_) | (with_reducible refine ex_alloc ?_ _)))).mono ?_); rintro e w' ⟨sc, sd, rfl, ⟨X10, rfl⟩, h10⟩; (try simp only [wx_wx, wx_drew] at h10); obtain ⟨t1, t2⟩ := h10.one; replace h10 := Lib.hid h10)
          refine wp_region_seq [(0, true), (1, true), (2, true), (4, true), (6, true), (3, false), (5, false), (7, true), (8, true), (9, true), (10, true), (11, true), (12, true), (13, true), (14, true), (15, true), (16, false), (17, true), (18, true), (19, true), (20, true), (21, true), (22, true), (23, true), (24, false), (25, true), (26, true), (27, true), (28, true), (29, true), (30, true), (31, true), (32, false), (33, true), (34, true)] (by kernel_rfl) (by kernel_rfl) (fun _ _ d _ _ h => by cases d <;> exact h) ?_
          simp only [List.map_cons, List.map_nil, nth]
          repeat (first | ((with_reducible refine wpSeq_look ?_); go_big_quiet_step (fail); (with_reducible refine wpQuiet_nil ?_)) | ((with_reducible refine wpSeq_effF ?_ ?_); (focus rfl); go_simp) | ((with_reducible refine wpSeq_eff ?_ ?_); (focus rfl); (try dsimp only); go_wp2_with (first | (go_at_call 28; (with_reducible refine (HLv6.out _ (by (try show Ex _ _); repeat (first | (with_reducible exact ex_refl _) | (with_reducible assumption) | (with_reducible refine ex_drewL ?_) | (with_reducible refine ex_appR ?_ _) | (with_reducible refine ex_wx ?_ _) | (with_reducible refine ex_drew ?_) | (with_reducible refine ex_alloc ?_ _)))).mono ?_); rintro e w' ⟨ov2, rfl, h5, X5, rfl⟩; (try simp only [wx_wx, wx_drew] at h5); obtain ⟨la5, lc5, rfl, f1, f2, _, f4⟩ := h5.sl; clear h5; replace f4 := Lib.hid f4) | (go_at_call 33; (with_reducible refine (HIn.out _ _ _ (by (try show Ex _ _); repeat (first | (with_reducible exact ex_refl _) | (with_reducible assumption) | (with_reducible refine ex_drewL ?_) | (with_reducible refine ex_appR ?_ _) | (with_reducible refine ex_wx ?_ _) | (with_reducible refine ex_drew ?_) | (with_reducible refine ex_alloc ?_ _))) f1 f2 (f4.out.ex (by (try show Ex _ _); repeat (first | (with_reducible exact ex_refl _) | (with_reducible assumption) | (with_reducible refine ex_drewL ?_) | (with_reducible refine ex_appR ?_ _) | (with_reducible refine ex_wx ?_ _) | (with_reducible refine ex_drew ?_) | (with_reducible refine ex_alloc ?_ _))))).mono ?_); rintro e w' ⟨rfl, X88, rfl⟩) | (go_at_call 34; (with_reducible refine (sameClash_o (h8.out.kt (by repeat (first | (with_reducible exact Kt.refl _) | (with_reducible refine Kt.ofSt ?_; ((repeat (first | (with_reducible exact St.refl _) | (with_reducible refine St.wx ?_ _) | (with_reducible refine St.alloc ?_ _) | (with_reducible refine St.turn ?_ (by decide)))); done)) | (with_reducible refine Kt.allocR ?_ _) | (with_reducible refine Kt.appR ?_ _) | (with_reducible refine Kt.wxR ?_ _)))) (h10.out.ex (by (try show Ex _ _); repeat (first | (with_reducible exact ex_refl _) | (with_reducible assumption) | (with_reducible refine ex_drewL ?_) | (with_reducible refine ex_appR ?_ _) | (with_reducible refine ex_wx ?_ _) | (with_reducible refine ex_drew ?_) | (with_reducible refine ex_alloc ?_ _))))).mono ?_); rintro e w' ⟨rfl, X11, rfl⟩) | (go_at_call 35; (with_reducible refine (HE.out _ (by (try show Ex _ _); repeat (first | (with_reducible exact ex_refl _) | (with_reducible assumption) | (with_reducible refine ex_drewL ?_) | (with_reducible refine ex_appR ?_ _) | (with_reducible refine ex_wx ?_ _) | (with_reducible refine ex_drew ?_) | (with_reducible refine ex_alloc ?_ _)))).mono ?_); rintro e w' ⟨rfl, X12, rfl⟩) | (go_at_call 36; (with_reducible refine (HS.out _ (by (try show Ex _ _); repeat (first | (with_reducible exact ex_refl _) | (with_reducible assumption) | (with_reducible refine ex_drewL ?_) | (with_reducible refine ex_appR ?_ _) | (with_reducible refine ex_wx ?_ _) | (with_reducible refine ex_drew ?_) | (with_reducible refine ex_alloc ?_ _)))).mono ?_); rintro e w' ⟨rfl, X13, rfl⟩)); refine mixQ_mk (by (try show Ex _ _); repeat (first | (with_reducible exact ex_refl _) | (with_reducible assumption) | (with_reducible refine ex_drewL ?_) | (with_reducible refine ex_appR ?_ _) | (with_reducible refine ex_wx ?_ _) | (with_reducible refine ex_drew ?_) | (with_reducible refine ex_alloc ?_ _))) ?_))
          refine wpSeq_nil ?_
          go_wp2
          exact ⟨⟨k + 1, by omega, by go_num, ex_trans hkB6.out (by (try show Ex _ _); repeat (first | (with_reducible exact ex_refl _) | (with_reducible assumption) | (with_reducible refine ex_drewL ?_) | (with_reducible refine ex_appR ?_ _) | (with_reducible refine ex_wx ?_ _) | (with_reducible refine ex_drew ?_) | (with_reducible refine ex_alloc ?_ _)))⟩, by simp [intOf]; omega⟩
    · obtain rfl : k = n2 := by omega
      clear hlt hk hs3
      go_wp2
      go_ret
      exact post_mk rfl (ex_trans hwB2.out (by (try show Ex _ _); repeat (first | (with_reducible exact ex_refl _) | (with_reducible assumption) | (with_reducible refine ex_drewL ?_) | (with_reducible refine ex_appR ?_ _) | (with_reducible refine ex_wx ?_ _) | (with_reducible refine ex_drew ?_) | (with_reducible refine ex_alloc ?_ _))))
end Go.Proofs.YtcdocklbpfdmeaaDoor

/- CollideClaims: how the claims open. -/
set_option linter.unusedSimpArgs false
set_option linter.unusedVariables false
set_option linter.unnecessarySimpa false
set_option maxRecDepth 20000
namespace Go.Proofs.YtcdocklbpfdmeaaDoor
open Go.RowKit Go.ChangeShapes Go.WideShapes Go.ChangeAt
section
variable {H : Type} {enc : TypeId × Value → H} {w : World} {base : Nat} {sp : Nat → Bool} {held : Bool}
theorem claim_of_trod {fuel : Nat} {cs : List Value} {x : DataW H × List MemPlace} (h : DataW.trod enc Tryd.prog w base sp held fuel 67 cs = some x) :
    ∃ (j : Int) (bv : Value) (b : List UInt8) (pa : Option Addr) (path : List Dg) (pc : Nat), cs = [I j, bv, .slice pa path.length pc] ∧ SlT w bv b ∧ path.length ≤ pc ∧ pc ≤ maxLen ∧ (pa = none → pc = 0) ∧ SlD w pa path := by
  obtain ⟨xs, m, _, _, hl, hxl, hel⟩ := DataW.trod_struct Tryd.underlying67 h
  rw [cclaim] at hl
  have hxl' : xs.length = 3 := hxl
  have e0 : DataW.trod enc Tryd.prog w base sp held m 3 ((cs.drop 0).take (Tryd.prog.cellsOf 3)) = xs[0]? := hel 0 _ rfl
  have e1 : DataW.trod enc Tryd.prog w base sp held m 35 ((cs.drop 1).take (Tryd.prog.cellsOf 35)) = xs[1]? := hel 1 _ rfl
  have e2 : DataW.trod enc Tryd.prog w base sp held m 25 ((cs.drop 2).take (Tryd.prog.cellsOf 25)) = xs[2]? := hel 2 _ rfl
  rw [c1int] at e0
  rw [c1rb] at e1
  rw [c1ids] at e2
  rw [List.getElem?_eq_getElem (by omega)] at e0 e1 e2
  obtain ⟨j, h0, _⟩ := DataW.trod_int Tryd.underlying3 e0
  obtain ⟨v1, l1, h1, s1⟩ := bytes_of_trod e1
  obtain ⟨pa, path, pc, h2, s2, s3, s4, s5⟩ := ids_of_trod e2
  obtain ⟨a1, a2, a3, rfl⟩ : ∃ a b c, cs = [a, b, c] := by
    match cs, hl with
    | [a, b, c], _ => exact ⟨a, b, c, rfl⟩
  simp at h0 h1 h2
  subst h0 h1 h2
  exact ⟨j, _, l1, pa, path, pc, rfl, s1, s2, s3, s4, s5⟩
theorem argClaims {b0 : Nat} {r : Reach} {v : Value} {d : DataW H} {p : List MemPlace} (h : Value.okWide Tryd.prog w r b0 64 v) (hd : DataW.Trod enc Tryd.prog w base sp held 64 v d p) :
    ∃ (a : Option Addr) (n c : Nat), v = .slice a n c ∧ n ≤ c ∧ c ≤ maxLen ∧ SlCm w a n := by
  obtain ⟨fuel, x, hx⟩ := arg_slice Tryd.underlying64 h hd
  obtain ⟨a, len, cap, hv, h1, h2, h3, h4⟩ := slice_open Tryd.underlying64 cclaim (by decide) hx
  refine ⟨a, len, cap, by simpa using hv, h1, h2, ?_⟩
  rcases h4 with rfl | ⟨g, off, rfl, hg, hi⟩
  · exact ⟨Or.inl rfl⟩
  · refine ⟨Or.inr ⟨g, off, rfl, hg, fun i hil => ?_⟩⟩
    obtain ⟨ecs, f', y, hc, hy⟩ := hi i hil
    obtain ⟨j, bv, b, pa, path, pc, rfl, hp⟩ := claim_of_trod hy
    refine ⟨j, bv, b, pa, path, pc, cellsN_some.2 ⟨rfl, fun k hk => ?_⟩, hp⟩
    obtain ⟨v, hv1, hv2⟩ := hc k hk
    rw [Nat.add_assoc, hv2, ← hv1]
    have : k = 0 ∨ k = 1 ∨ k = 2 := by omega
    rcases this with rfl | rfl | rfl <;> rfl
end
end Go.Proofs.YtcdocklbpfdmeaaDoor
