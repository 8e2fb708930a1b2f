import Derived.Test.YtcdocklbpfdmeaaDoorMMem
import Derived.OwnWalk
import Derived.Lib.BufferRead
import Derived.Lib.ConvBytes
import Derived.Laws.IdiomStrings

/- Arrays of numbers that are held against one another. Over whatever program. -/
set_option linter.unusedSimpArgs false
set_option linter.unusedVariables false
set_option maxRecDepth 20000
namespace Go.Proofs.YtcdocklbpfdmeaaDoor
open Go.RowKit
section
variable {P : Program}
theorem equalIn_ints {t e : TypeId} {k : IntKind} {len : Nat} (hu : P.underlying t = some (.array len e)) (he : P.underlying e = some (.int k)) (hs : (P.info? e).map (·.size) = some 1) (xs ys : Array Value) (x y : Nat → Int)
    (hx : ∀ i, i < len → xs[i]? = some (.int k (x i))) (hy : ∀ i, i < len → ys[i]? = some (.int k (y i))) (d : Nat) (w : World) :
    (Op.equalIn (d + 2) t (.agg xs) (.agg ys)).run P w = .ok ((List.range len).all fun i => x i == y i) w := by
  obtain ⟨j, hj, hsz⟩ : ∃ j, P.info? e = some j ∧ j.size = 1 := by
    cases hq : P.info? e with
    | none => rw [hq] at hs; cases hs
    | some i => exact ⟨i, rfl, by rw [hq] at hs; simpa using hs⟩
  have hce : P.cellsOf e = 1 := by simp [Program.cellsOf, hj, hsz]
  have hpart : ∀ (zs : Array Value) (z : Nat → Int) (i : Nat), zs[i]? = some (.int k (z i)) → (part e zs (i * P.cellsOf e)).run P w = .ok (.int k (z i)) w := by
    intro zs z i h
    have hrow : (isAgg e).run P w = .ok false w := by simp [isAgg, run_underlying he]
    simp [part, run_sizeOf w hj, hce, hrow, h]
  have heq : ∀ a b : Int, (Op.equalIn (d + 1) e (.int k a) (.int k b)).run P w = .ok (a == b) w := fun a b => run_equalIn_int w d e k k a b he
  rw [show d + 2 = (d + 1) + 1 from rfl]
  generalize d + 1 = m at heq ⊢
  simp only [Op.equalIn, Sem.run_bind, run_underlying hu, Result.andThen_ok, run_sizeOf w hj, hsz]
  rw [Std.Legacy.Range.forIn_eq_forIn_range']
  rw [show Std.Legacy.Range.size [0:len] = len by simp [Std.Legacy.Range.size]]
  rw [← List.range_eq_range']
  generalize hl : List.range len = l
  have hm : ∀ i ∈ l, i < len := fun i hi => by rw [← hl] at hi; exact List.mem_range.1 hi
  clear hl
  induction l with
  | nil => simp
  | cons i l ih =>
    have hi := hm i List.mem_cons_self
    simp only [List.forIn_cons, Sem.run_bind, hpart xs x i (hx i hi), hpart ys y i (hy i hi), Result.andThen_ok, heq, List.all_cons]
    cases hxy : (x i == y i) with
    | true =>
      simp only [Bool.not_true, Bool.false_eq_true, if_false, Sem.run_pure, Result.andThen_ok, Bool.true_and]
      exact ih fun i hi => hm i (List.mem_cons_of_mem _ hi)
    | false =>
      simp only [Bool.not_false, if_true, Sem.run_pure, Result.andThen_ok, Bool.false_and]
theorem all_range {n : Nat} {p : Nat → Bool} : (List.range n).all p = decide (∀ i, i < n → p i = true) := by
  rw [Bool.eq_iff_iff]; simp
/-- Are the first n the same? -/
def eqF {α : Type} [DecidableEq α] (f g : Nat → α) (n : Nat) : Bool := decide (∀ i, i < n → f i = g i)
theorem eqF_true {α : Type} [DecidableEq α] {f g : Nat → α} {n : Nat} : eqF f g n = true ↔ ∀ i, i < n → f i = g i := by simp [eqF]
theorem eqF_same {α : Type} [DecidableEq α] (f : Nat → α) (n : Nat) : eqF f f n = true := eqF_true.2 fun _ _ => rfl
theorem eqlRow {t e : TypeId} {k : IntKind} {len : Nat} (hu : P.underlying t = some (.array len e)) (he : P.underlying e = some (.int k)) (hs : (P.info? e).map (·.size) = some 1) (xs ys : Array Value) (x y : Nat → Int)
    (hx : ∀ i, i < len → xs[i]? = some (.int k (x i))) (hy : ∀ i, i < len → ys[i]? = some (.int k (y i))) (w : World) (b : Bool) (hb : b = decide (∀ i, i < len → x i = y i)) :
    (binOp .eql t (.agg xs) (.agg ys)).run P w = .ok (.bool b) w := by
  rw [run_eql_struct, equalIn_ints hu he hs xs ys x y hx hy 9998 w, all_range, hb]; simp
theorem neqRow {t e : TypeId} {k : IntKind} {len : Nat} (hu : P.underlying t = some (.array len e)) (he : P.underlying e = some (.int k)) (hs : (P.info? e).map (·.size) = some 1) (xs ys : Array Value) (x y : Nat → Int)
    (hx : ∀ i, i < len → xs[i]? = some (.int k (x i))) (hy : ∀ i, i < len → ys[i]? = some (.int k (y i))) (w : World) (b : Bool) (hb : b = decide (∀ i, i < len → x i = y i)) :
    (binOp .neq t (.agg xs) (.agg ys)).run P w = .ok (.bool (!b)) w := by
  rw [run_neq_struct, equalIn_ints hu he hs xs ys x y hx hy 9998 w, all_range, hb]; simp
theorem eqF_B (f g : Nat → UInt8) (n : Nat) : eqF f g n = decide (∀ i, i < n → bn (f i) = bn (g i)) := by
  rw [Bool.eq_iff_iff]; simp only [eqF_true, decide_eq_true_eq]
  exact ⟨fun h i hi => by rw [h i hi], fun h i hi => bn_inj (h i hi)⟩
theorem eqlB {t e : TypeId} {n : Nat} (hu : P.underlying t = some (.array n e)) (he : P.underlying e = some (.int .u8)) (hs : (P.info? e).map (·.size) = some 1) (f g : Nat → UInt8) (w : World) :
    (binOp .eql t (.agg (rowB n f)) (.agg (rowB n g))).run P w = .ok (.bool (eqF f g n)) w :=
  eqlRow hu he hs _ _ (fun i => bn (f i)) (fun i => bn (g i)) (fun i hi => by rw [rowB_get, if_pos hi]) (fun i hi => by rw [rowB_get, if_pos hi]) w _ (eqF_B f g n)
theorem neqB {t e : TypeId} {n : Nat} (hu : P.underlying t = some (.array n e)) (he : P.underlying e = some (.int .u8)) (hs : (P.info? e).map (·.size) = some 1) (f g : Nat → UInt8) (w : World) :
    (binOp .neq t (.agg (rowB n f)) (.agg (rowB n g))).run P w = .ok (.bool (!eqF f g n)) w :=
  neqRow hu he hs _ _ (fun i => bn (f i)) (fun i => bn (g i)) (fun i hi => by rw [rowB_get, if_pos hi]) (fun i hi => by rw [rowB_get, if_pos hi]) w _ (eqF_B f g n)
end
end Go.Proofs.YtcdocklbpfdmeaaDoor

/- Slices of the call's own that grow. Over whatever program. -/
set_option linter.unusedSimpArgs false
set_option linter.unusedVariables false
set_option maxRecDepth 20000
namespace Go.Proofs.YtcdocklbpfdmeaaDoor
open Go.RowKit
section
variable {P : Program}
theorem owns_ex {w w' : World} {B : Nat} {e : TypeId} {s : Nat} {v : Value} {n : Nat} {xs : List Value} (h : w.ownsRow B e s v n xs) (k : Ex w w') : w'.ownsRow B e s v n xs := by
  obtain ⟨X, rfl⟩ := k
  exact h.kept (row := none) ⟨rfl, rfl, rfl, by simp [wx], fun j hj _ => wx_heap w X j hj⟩ (by cases hv : v.ownBlock <;> simp)
theorem owns_drew {w : World} {B : Nat} {e : TypeId} {s : Nat} {v : Value} {n : Nat} {xs : List Value} (h : w.ownsRow B e s v n xs) : w.drew.ownsRow B e s v n xs := owns_ex h (ex_drew (ex_refl _))
theorem owns_nil (w : World) (B : Nat) (e : TypeId) (s : Nat) : w.ownsRow B e s (.slice none 0 0) 0 [] := ⟨by simp, Or.inl ⟨rfl, rfl⟩⟩
/-- A slice whose elements lie in memory as a list's. -/
theorem owns_new {w : World} {B g : Nat} {e : TypeId} {s : Nat} {n cap : Nat} {cs : Array Value} {xs : List Value} (hg : g = w.heap.size) (hB : B ≤ w.heap.size) (hn : n ≤ cap) (hc : cap ≤ maxLen) (hs : cs.size = cap * s) (hx : xs = cs.toList.take (n * s)) :
    (w.alloc (.cells cs e)).ownsRow B e s (.slice (some ⟨g, 0, none⟩) n cap) n xs := by
  subst hg hx
  exact ⟨by rw [List.length_take, Array.length_toList, hs]; exact Nat.min_eq_left (Nat.mul_le_mul_right _ hn), Or.inr ⟨_, cap, cs, rfl, hB, heap_alloc_new _ _, hn, hc, hs, rfl⟩⟩
/-- What an element's type is good for. -/
structure AppT (P : Program) (t e : TypeId) (size bytes : Nat) (z : Value) : Prop where
  ht : P.underlying t = some (.slice e)
  hi : (P.info? e).map (fun i => (i.zero, i.size, i.bytes)) = some (some z, size, bytes)
  hzs : z.cells.size = size
  hsz : 0 < size
theorem below_app {B : Nat} {w w' : World} {e : TypeId} {s : Nat} {v : Value} {n : Nat} {xs : List Value} (h : w.ownsRow B e s v n xs) (hg : w.grownBy w' v.ownBlock) (hB : B ≤ w.heap.size) : Below B w w' :=
  (Below.refl B w).grown hg hB fun k hk => (h.lt k hk).1
theorem ex_size {w w' : World} (k : Ex w w') : w.heap.size ≤ w'.heap.size := (ex_below k).size
theorem news_alloc {w w' : World} {cs : Array Value} {e : TypeId} {g : Nat} (hg : g = w.heap.size) (k : Ex (w.alloc (.cells cs e)) w') : ∀ (j : Nat) (u : Value), cs.toList[j]? = some u → w'.cell? ((⟨g, 0, none⟩ : Addr).add j) = some u := by
  intro j u hj
  subst hg
  have hb : w'.heap[w.heap.size]? = some (.cells cs e (0, 0)) := by
    obtain ⟨X, rfl⟩ := k
    rw [wx_heap _ _ _ (by simp [go_sem])]; exact heap_alloc_new _ _
  have hadd : (⟨w.heap.size, 0, none⟩ : Addr).add j = ⟨w.heap.size, j, none⟩ := by unfold Addr.add; split <;> simp_all
  rw [hadd, cell_of_row w' w.heap.size j cs e (0, 0) hb]
  simpa using hj
theorem wpApp {t e : TypeId} {size bytes : Nat} {z : Value} (T : AppT P t e size bytes z) {ops : Array Oper} {rest : List Oper} {o : Oper} {a : Act} {w : World} {Q : Exit → Act → World → Prop} (s x : Operand) (hgd : o.guard = none)
    (ho : o.op = .call { callee := .builtin .append, args := #[s, x], argTypes := #[t, t] })
    {B : Nat} {v : Value} {n : Nat} {xs : List Value} (hown : w.ownsRow B e size v n xs) (hs : a.eval s = v)
    (ad : Addr) (m c : Nat) (news : List Value) (hx : a.eval x = .slice (some ad) m c) (hl : news.length = m * size) (hnews : ∀ j u, news[j]? = some u → w.cell? (ad.add j) = some u) (h1 : ∀ u ∈ news, u.oneCell' = true)
    (h63 : n + m ≤ maxLen) (hbytes : (n + m) * bytes ≤ 140737488355328) (hbase : B ≤ w.heap.size)
    (h : ∀ v' w', w'.ownsRow B e size v' (n + m) (xs ++ news) → Below B w w' → wpList P ops Q rest (a.put o.dst v') w') : wpList P ops Q (o :: rest) a w := by
  obtain ⟨i, hi, h1', h2', h3'⟩ := info_parts T.hi
  exact wpList_append_own w hgd s x t ho B e i z size bytes T.ht hi h1' h2' h3' T.hzs T.hsz v n xs hs hown ad m c news hx hl hnews h1 h63 hbytes hbase fun v' w' hw hg _ => h v' w' hw (below_app hown hg hbase)
/-- A row of one cell, n times. -/
def manyC (z : Value) (n : Nat) : Array Value := madeCells z.cells n
def makeRaw (P : Program) (t : TypeId) (x y : Value) (w : World) : Result Value := (Instr.makeSlice t x y).run P w
theorem make_rule {t e : TypeId} {size bytes : Nat} {z : Value} (T : AppT P t e size bytes z) (l c : Int) (w : World) :
    (Instr.makeSlice t (.int .i64 l) (.int .i64 c)).run P w = if 0 ≤ l ∧ l ≤ c ∧ (bytes : Int) * c ≤ 281474976710656 ∧ c ≤ 9223372036854775807 then
      .ok (.slice (some ⟨w.heap.size, 0, none⟩) l.toNat c.toNat) (w.alloc (.cells (manyC z (c.toNat * size)) e)) else makeRaw P t (.int .i64 l) (.int .i64 c) w := by
  split
  · rename_i h
    obtain ⟨i, hi, h1', h2', h3'⟩ := info_parts T.hi
    subst h2' h3'
    exact run_make w t e i z T.ht hi h1' .i64 .i64 l c h.1 h.2.1 h.2.2.1 h.2.2.2
  · rfl
theorem manyC_size (z : Value) (n : Nat) : (manyC z n).size = n := size_madeCells _ _
theorem manyC_B (n : Nat) : manyC (.int .u8 0) n = rowB n fun _ => 0 := by
  apply arr_ext; intro j
  rw [rowB_get]
  by_cases h : j < n
  · rw [if_pos h]; simp [manyC, madeCells, Value.cells, h, Nat.mod_one]; rfl
  · rw [if_neg h, Array.getElem?_eq_none (by rw [manyC_size]; omega)]
end
end Go.Proofs.YtcdocklbpfdmeaaDoor
