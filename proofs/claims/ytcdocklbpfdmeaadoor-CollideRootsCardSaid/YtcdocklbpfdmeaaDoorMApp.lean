import Derived.Test.YtcdocklbpfdmeaaDoorMWords
import Derived.OwnWalk
import Derived.Lib.BufferRead
import Derived.Lib.ConvBytes
import Derived.Laws.IdiomStrings
import Derived.Test.YtcdocklbpfdmeaaDoorMSl
import Derived.Test.YtcdocklbpfdmeaaDoorMEq
import Derived.Lib.LazyBuf
import Derived.Lib.Hide

/- Slices of the call's own that grow. Over whatever program. -/
set_option linter.unusedSimpArgs false
set_option linter.unusedVariables false
set_option maxRecDepth 20000
namespace Go.Proofs.YtcdocklbpfdmeaaDoor
open Go.RowKit
section
variable {P : Program}
theorem owns_ex {w w' : World} {B : Nat} {e : TypeId} {s : Nat} {v : Value} {n : Nat} {xs : List Value} (h : w.ownsRow B e s v n xs) (k : Ex w w') : w'.ownsRow B e s v n xs := by
  obtain ⟨X, rfl⟩ := k
  exact h.kept (row := none) ⟨rfl, rfl, rfl, by simp [wx], fun j hj _ => wx_heap w X j hj⟩ (by cases hv : v.ownBlock <;> simp)
theorem owns_drew {w : World} {B : Nat} {e : TypeId} {s : Nat} {v : Value} {n : Nat} {xs : List Value} (h : w.ownsRow B e s v n xs) : w.drew.ownsRow B e s v n xs := owns_ex h (ex_drew (ex_refl _))
theorem owns_nil (w : World) (B : Nat) (e : TypeId) (s : Nat) : w.ownsRow B e s (.slice none 0 0) 0 [] := ⟨by simp, Or.inl ⟨rfl, rfl⟩⟩
/-- A slice whose elements lie in memory as a list's. -/
theorem owns_new {w : World} {B g : Nat} {e : TypeId} {s : Nat} {n cap : Nat} {cs : Array Value} {xs : List Value} (hg : g = w.heap.size) (hB : B ≤ w.heap.size) (hn : n ≤ cap) (hc : cap ≤ maxLen) (hs : cs.size = cap * s) (hx : xs = cs.toList.take (n * s)) :
    (w.alloc (.cells cs e)).ownsRow B e s (.slice (some ⟨g, 0, none⟩) n cap) n xs := by
  subst hg hx
  exact ⟨by rw [List.length_take, Array.length_toList, hs]; exact Nat.min_eq_left (Nat.mul_le_mul_right _ hn), Or.inr ⟨_, cap, cs, rfl, hB, heap_alloc_new _ _, hn, hc, hs, rfl⟩⟩
/-- What an element's type is good for. -/
structure AppT (P : Program) (t e : TypeId) (size bytes : Nat) (z : Value) : Prop where
  ht : P.underlying t = some (.slice e)
  hi : (P.info? e).map (fun i => (i.zero, i.size, i.bytes)) = some (some z, size, bytes)
  hzs : z.cells.size = size
  hsz : 0 < size
theorem below_app {B : Nat} {w w' : World} {e : TypeId} {s : Nat} {v : Value} {n : Nat} {xs : List Value} (h : w.ownsRow B e s v n xs) (hg : w.grownBy w' v.ownBlock) (hB : B ≤ w.heap.size) : Below B w w' :=
  (Below.refl B w).grown hg hB fun k hk => (h.lt k hk).1
theorem ex_size {w w' : World} (k : Ex w w') : w.heap.size ≤ w'.heap.size := (ex_below k).size
theorem news_alloc {w w' : World} {cs : Array Value} {e : TypeId} {g : Nat} (hg : g = w.heap.size) (k : Ex (w.alloc (.cells cs e)) w') : ∀ (j : Nat) (u : Value), cs.toList[j]? = some u → w'.cell? ((⟨g, 0, none⟩ : Addr).add j) = some u := by
  intro j u hj
  subst hg
  have hb : w'.heap[w.heap.size]? = some (.cells cs e (0, 0)) := by
    obtain ⟨X, rfl⟩ := k
    rw [wx_heap _ _ _ (by simp [go_sem])]; exact heap_alloc_new _ _
  have hadd : (⟨w.heap.size, 0, none⟩ : Addr).add j = ⟨w.heap.size, j, none⟩ := by unfold Addr.add; split <;> simp_all
  rw [hadd, cell_of_row w' w.heap.size j cs e (0, 0) hb]
  simpa using hj
theorem wpApp {t e : TypeId} {size bytes : Nat} {z : Value} (T : AppT P t e size bytes z) {ops : Array Oper} {rest : List Oper} {o : Oper} {a : Act} {w : World} {Q : Exit → Act → World → Prop} (s x : Operand) (hgd : o.guard = none)
    (ho : o.op = .call { callee := .builtin .append, args := #[s, x], argTypes := #[t, t] })
    {B : Nat} {v : Value} {n : Nat} {xs : List Value} (hown : w.ownsRow B e size v n xs) (hs : a.eval s = v)
    (ad : Addr) (m c : Nat) (news : List Value) (hx : a.eval x = .slice (some ad) m c) (hl : news.length = m * size) (hnews : ∀ j u, news[j]? = some u → w.cell? (ad.add j) = some u) (h1 : ∀ u ∈ news, u.oneCell' = true)
    (h63 : n + m ≤ maxLen) (hbytes : (n + m) * bytes ≤ 140737488355328) (hbase : B ≤ w.heap.size)
    (h : ∀ v' w', w'.ownsRow B e size v' (n + m) (xs ++ news) → Below B w w' → wpList P ops Q rest (a.put o.dst v') w') : wpList P ops Q (o :: rest) a w := by
  obtain ⟨i, hi, h1', h2', h3'⟩ := info_parts T.hi
  exact wpList_append_own w hgd s x t ho B e i z size bytes T.ht hi h1' h2' h3' T.hzs T.hsz v n xs hs hown ad m c news hx hl hnews h1 h63 hbytes hbase fun v' w' hw hg _ => h v' w' hw (below_app hown hg hbase)
/-- A row of one cell, n times. -/
def manyC (z : Value) (n : Nat) : Array Value := madeCells z.cells n
def makeRaw (P : Program) (t : TypeId) (x y : Value) (w : World) : Result Value := (Instr.makeSlice t x y).run P w
theorem make_rule {t e : TypeId} {size bytes : Nat} {z : Value} (T : AppT P t e size bytes z) (l c : Int) (w : World) :
    (Instr.makeSlice t (.int .i64 l) (.int .i64 c)).run P w = if 0 ≤ l ∧ l ≤ c ∧ (bytes : Int) * c ≤ 281474976710656 ∧ c ≤ 9223372036854775807 then
      .ok (.slice (some ⟨w.heap.size, 0, none⟩) l.toNat c.toNat) (w.alloc (.cells (manyC z (c.toNat * size)) e)) else makeRaw P t (.int .i64 l) (.int .i64 c) w := by
  split
  · rename_i h
    obtain ⟨i, hi, h1', h2', h3'⟩ := info_parts T.hi
    subst h2' h3'
    exact run_make w t e i z T.ht hi h1' .i64 .i64 l c h.1 h.2.1 h.2.2.1 h.2.2.2
  · rfl
theorem manyC_size (z : Value) (n : Nat) : (manyC z n).size = n := size_madeCells _ _
theorem manyC_B (n : Nat) : manyC (.int .u8 0) n = rowB n fun _ => 0 := by
  apply arr_ext; intro j
  rw [rowB_get]
  by_cases h : j < n
  · rw [if_pos h]; simp [manyC, madeCells, Value.cells, h, Nat.mod_one]; rfl
  · rw [if_neg h, Array.getElem?_eq_none (by rw [manyC_size]; omega)]
/-- A row of the call's own bytes, as a string. -/
theorem conv_owns {src dst e : TypeId} (hs : P.underlying src = some (.slice e)) (he : P.underlying e = some (.int .u8)) (hd : P.underlying dst = some .string) {w : World} {B : Nat} {v : Value} {n : Nat} {l : List UInt8}
    (h : w.ownsRow B e 1 v n (Lib.byteCells l)) : (convert src dst v).run P w = .ok (.string ⟨l.toArray⟩) w := by
  have hl : l.length = n := by have := h.1; simpa [Lib.byteCells] using this
  subst hl
  rcases h.2 with ⟨rfl, h0⟩ | ⟨g, cap, cur, rfl, h1, h2, h3, h4, h5, h6⟩
  · have := List.eq_nil_of_length_eq_zero h0
    subst this
    rw [Lib.run_convert_nil_bytes w src dst e 0 hs he hd]
  · refine run_convert_bytes_back w src dst e ⟨g, 0, none⟩ cap l hs he hd fun j hj => ?_
    exact h.cells (g := g) rfl j _ (by simp [Lib.byteCells, List.getElem?_eq_getElem hj])
end
end Go.Proofs.YtcdocklbpfdmeaaDoor

/- Slices of bytes of the call's own. -/
set_option linter.unusedSimpArgs false
set_option linter.unusedVariables false
set_option maxRecDepth 20000
namespace Go.Proofs.YtcdocklbpfdmeaaDoor
open Go.RowKit
@[go_sem high] theorem eql_id (f g : Nat → UInt8) (w : World) : (binOp .eql 46 (.agg (rowB 32 f)) (.agg (rowB 32 g))).run Tryd.prog w = .ok (.bool (eqF f g 32)) w := eqlB Tryd.underlying46 Tryd.underlying5 (by kernel_rfl) f g w
@[go_sem high] theorem neq_id (f g : Nat → UInt8) (w : World) : (binOp .neq 46 (.agg (rowB 32 f)) (.agg (rowB 32 g))).run Tryd.prog w = .ok (.bool (!eqF f g 32)) w := neqB Tryd.underlying46 Tryd.underlying5 (by kernel_rfl) f g w
theorem appu8 : AppT Tryd.prog 35 5 1 1 (.int .u8 0) := ⟨Tryd.underlying35, by kernel_rfl, rfl, by decide⟩
@[go_sem] theorem make_u8 (l c : Int) (w : World) : (Instr.makeSlice 35 (.int .i64 l) (.int .i64 c)).run Tryd.prog w = if 0 ≤ l ∧ l ≤ c ∧ c ≤ 281474976710656 then
      .ok (.slice (some ⟨w.heap.size, 0, none⟩) l.toNat c.toNat) (w.alloc (.cells (rowB c.toNat fun _ => 0) 5)) else makeRaw Tryd.prog 35 (.int .i64 l) (.int .i64 c) w := by
  rw [make_rule appu8, manyC_B, Nat.mul_one]
  by_cases h : 0 ≤ l ∧ l ≤ c ∧ c ≤ 281474976710656
  · rw [if_pos h, if_pos ⟨h.1, h.2.1, by omega, by omega⟩]
  · rw [if_neg h, if_neg (by omega)]
@[go_sem high] theorem eqlnil_u8 (a : Option Addr) (n c : Nat) (w : World) : (binOp .eql 35 (.slice a n c) (.slice none 0 0)).run Tryd.prog w = .ok (.bool a.isNone) w := _root_.Go.run_eql_slice_nil w _ _ a n c Tryd.underlying35
@[go_sem high] theorem neqnil_u8 (a : Option Addr) (n c : Nat) (w : World) : (binOp .neq 35 (.slice a n c) (.slice none 0 0)).run Tryd.prog w = .ok (.bool (!a.isNone)) w := _root_.Go.run_neq_slice_nil w _ _ a n c Tryd.underlying35
/-- A slice that was made, with what it holds. -/
def PostSl (W : World) (n : Nat) (f : Nat → UInt8) (e : Ending) (w' : World) : Prop := ∃ a c, e = .returned (.slice a n c) ∧ n ≤ c ∧ c ≤ maxLen ∧ (a = none → c = 0) ∧ SlB w' a n f ∧ ∃ X, w' = wx W X
theorem owns_slb {w : World} {Z : Nat} {v : Value} {n : Nat} {f : Nat → UInt8} (h : w.ownsRow Z 5 1 v n (rowB n f).toList) : ∃ a c, v = .slice a n c ∧ n ≤ c ∧ c ≤ maxLen ∧ (a = none → c = 0) ∧ SlB w a n f := by
  rcases h.2 with ⟨rfl, rfl⟩ | ⟨g, cap, cur, rfl, h1, h2, h3, h4, h5, h6⟩
  · exact ⟨none, 0, rfl, by omega, by unfold maxLen; omega, fun _ => rfl, SlB.zero _ _ _⟩
  · refine ⟨_, cap, rfl, h3, h4, (fun h => by cases h), SlB.mk' (Array.getElem?_eq_some_iff.1 h2).1 fun j hj => ?_⟩
    have := h.cells (g := g) rfl j (B (f j)) (by simp [go_sem, hj])
    have hadd : (⟨g, 0, none⟩ : Addr).add j = ⟨g, 0 + j, none⟩ := by unfold Addr.add; split <;> simp_all
    rwa [hadd] at this
theorem post_sl {W w' : World} {Z : Nat} {v : Value} {n : Nat} {f : Nat → UInt8} (h : w'.ownsRow Z 5 1 v n (rowB n f).toList) (k : Ex W w') : PostSl W n f (.returned v) w' := by
  obtain ⟨a, c, rfl, h1, h2, h2', h3⟩ := owns_slb h
  exact ⟨a, c, rfl, h1, h2, h2', h3, k⟩
theorem slb_news {w w' : World} {g off n : Nat} {f : Nat → UInt8} (hg : g < w.heap.size) (hc : ∀ j, j < n → w.cell? ⟨g, off + j, none⟩ = some (B (f j))) (k : Ex w w') : ∀ (j : Nat) (u : Value), (rowB n f).toList[j]? = some u → w'.cell? ((⟨g, off, none⟩ : Addr).add j) = some u := by
  intro j u hu
  have hadd : (⟨g, off, none⟩ : Addr).add j = ⟨g, off + j, none⟩ := by unfold Addr.add; split <;> simp_all
  obtain ⟨X, rfl⟩ := k
  simp only [Array.getElem?_toList, rowB_get] at hu
  split at hu
  · rename_i hj
    cases hu
    rw [hadd, wx_cell _ _ _ hg, hc j hj]
  · cases hu
end Go.Proofs.YtcdocklbpfdmeaaDoor
