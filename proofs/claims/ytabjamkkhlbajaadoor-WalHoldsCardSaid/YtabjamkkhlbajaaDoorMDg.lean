import Derived.Test.YtabjamkkhlbajaaDoorMLittle
import Derived.Test.YtabjamkkhlbajaaDoorMBy
import Derived.Test.YtabjamkkhlbajaaDoorMSum
import Derived.Test.YtabjamkkhlbajaaDoorMSumR

/- Bytes as lists, digests: slices of both; Sum of both texts over lists. -/
set_option linter.unusedSimpArgs false
set_option linter.unusedVariables false
set_option maxRecDepth 20000
namespace Go.Proofs.YtabjamkkhlbajaaDoor
open Go.RowKit
theorem rowB_list (l : List UInt8) : (rowB l.length (gF l)).toList = Lib.byteCells l := by
  apply List.ext_getElem?
  intro i
  rw [Array.getElem?_toList, rowB_get]
  unfold Lib.byteCells gF
  rw [List.getElem?_map, List.getD_eq_getElem?_getD]
  by_cases h : i < l.length
  · rw [if_pos h, List.getElem?_eq_getElem h]; rfl
  · rw [if_neg h, List.getElem?_eq_none (by omega)]; rfl
theorem sumD_row (l : List UInt8) : rowB 32 (sumF (gF l) l.length) = rowB 32 (dF (sumD l)) := rowB_congr fun i hi => (dF_ofF _ i hi).symm
/-- A slice that reads as a list of bytes. -/
def SlL (w : World) (a : Option Addr) (l : List UInt8) : Prop := SlB w a l.length (gF l)
theorem SlL.ex {w w' : World} {a : Option Addr} {l : List UInt8} (h : SlL w a l) (k : Ex w w') : SlL w' a l := SlB.ex h k
structure SlT (w : World) (v : Value) (l : List UInt8) : Prop where
  out : ∃ a c, v = .slice a l.length c ∧ l.length ≤ c ∧ c ≤ maxLen ∧ (a = none → c = 0) ∧ SlL w a l
theorem SlT.ex {w w' : World} {v : Value} {l : List UInt8} (h : SlT w v l) (k : Ex w w') : SlT w' v l := by
  obtain ⟨a, c, h1, h2, h3, h4, h5⟩ := h.out
  exact ⟨a, c, h1, h2, h3, h4, h5.ex k⟩
/-- The same, not nil. -/
structure SlS (w : World) (v : Value) (l : List UInt8) : Prop where
  out : ∃ ad c, v = .slice (some ad) l.length c ∧ l.length ≤ c ∧ c ≤ maxLen ∧ SlL w (some ad) l
theorem SlS.ex {w w' : World} {v : Value} {l : List UInt8} (h : SlS w v l) (k : Ex w w') : SlS w' v l := by
  obtain ⟨a, c, h1, h2, h3, h5⟩ := h.out
  exact ⟨a, c, h1, h2, h3, h5.ex k⟩
theorem SlS.slt {w : World} {v : Value} {l : List UInt8} (h : SlS w v l) : SlT w v l := by
  obtain ⟨a, c, h1, h2, h3, h5⟩ := h.out
  exact ⟨some a, c, h1, h2, h3, (fun h => by cases h), h5⟩
theorem owns_slt {w : World} {Z : Nat} {v : Value} {n : Nat} {l : List UInt8} (h : w.ownsRow Z 5 1 v n (Lib.byteCells l)) : SlT w v l := by
  have hn : l.length = n := by have := h.1; simpa [Lib.byteCells] using this
  subst hn
  rw [← rowB_list] at h
  obtain ⟨a, c, h1, h2, h3, h4, h5⟩ := owns_slb h
  exact ⟨a, c, h1, h2, h3, h4, h5⟩
theorem sll_news {w w' : World} {ad : Addr} {l : List UInt8} (h : SlL w (some ad) l) (k : Ex w w') : ∀ (j : Nat) (u : Value), (Lib.byteCells l)[j]? = some u → w'.cell? (ad.add j) = some u := by
  rcases h.out with h0 | ⟨g, off, h1, hg, hc⟩
  · have := List.eq_nil_of_length_eq_zero h0
    subst this; intro j u hu; simp [Lib.byteCells] at hu
  · cases h1
    rw [← rowB_list]
    exact slb_news hg hc k
theorem bytes_one (l : List UInt8) : ∀ u ∈ Lib.byteCells l, u.oneCell' = true := by
  intro u hu
  simp only [Lib.byteCells, List.mem_map] at hu
  obtain ⟨b, _, rfl⟩ := hu; rfl
theorem bytes_len (l : List UInt8) : (Lib.byteCells l).length = l.length := by simp [Lib.byteCells]
theorem bytes_app (l r : List UInt8) : Lib.byteCells l ++ Lib.byteCells r = Lib.byteCells (l ++ r) := by simp [Lib.byteCells]
/-- Cells that lie in a new block. -/
theorem sll_block {w : World} {g : Nat} {l : List UInt8} {t : TypeId} {fr : Nat × Nat} {cs : Array Value} (hb : w.heap[g]? = some (.cells cs t fr)) (hc : ∀ j, j < l.length → cs[j]? = some (B (gF l j))) : SlL w (some ⟨g, 0, none⟩) l := by
  refine SlB.mk' (Array.getElem?_eq_some_iff.1 hb).1 fun j hj => ?_
  rw [Nat.zero_add, cell_of_row _ g j _ _ _ hb, hc j hj]
theorem sls_one {w w' : World} {g : Nat} (b : UInt8) {t : TypeId} {z : Int} (k : Ex (w.alloc (.cells #[.int .u8 z] t)) w') (hg : g = w.heap.size) (hz : z = bn b) : SlS w' (.slice (some ⟨g, 0, none⟩) 1 1) [b] := by
  subst hg hz
  refine ⟨_, 1, rfl, by simp, by decide, SlL.ex (sll_block (heap_alloc_new _ _) fun j hj => ?_) k⟩
  have : j = 0 := by simpa using hj
  subst this; rfl
theorem sum_slt {w w' : World} (G : Glob w) (k : Ex w w') {v : Value} {l : List UInt8} (h : SlT w' v l) (h48 : l.length ≤ 281474976710656) :
    Calls Tryd.prog 56 #[v] w' (Post w' (.agg (rowB 32 (dF (sumD l))))) := by
  obtain ⟨a, c, rfl, h2, h3, h4, h5⟩ := h.out
  have := sum_glob G k a l.length c (gF l) h2 h3 h48 h5
  rwa [sumD_row] at this
theorem slt_nil (w : World) : SlT w (.slice none 0 0) [] := ⟨none, 0, rfl, by simp, by decide, fun _ => rfl, SlB.zero _ _ _⟩
/-- A slice of digests. -/
structure SlD (w : World) (a : Option Addr) (l : List Dg) : Prop where
  out : l = [] ∨ ∃ g off, a = some ⟨g, off, none⟩ ∧ g < w.heap.size ∧ ∀ i d, l[i]? = some d → cellsN w g (off + i * 32) 32 = some (rowB 32 (dF d))
theorem SlD.ex {w w' : World} {a : Option Addr} {l : List Dg} (h : SlD w a l) (k : Ex w w') : SlD w' a l := by
  obtain ⟨X, rfl⟩ := k
  rcases h.out with h | ⟨g, off, h1, h2, h3⟩
  · exact ⟨Or.inl h⟩
  · refine ⟨Or.inr ⟨g, off, h1, by rw [wx_size]; omega, fun i d hd => ?_⟩⟩
    rw [cellsN_congr fun j _ => wx_cell w X _ h2]; exact h3 i d hd
theorem SlD.pos {w : World} {a : Option Addr} {l : List Dg} (h : SlD w a l) (hn : 0 < l.length) : ∃ g off, a = some ⟨g, off, none⟩ ∧ g < w.heap.size ∧ ∀ i d, l[i]? = some d → cellsN w g (off + i * 32) 32 = some (rowB 32 (dF d)) := by
  rcases h.out with rfl | h
  · simp at hn
  · exact h
theorem SlD.nil (w : World) (a : Option Addr) : SlD w a [] := ⟨Or.inl rfl⟩
theorem SlD.take {w : World} {a : Option Addr} {l : List Dg} (h : SlD w a l) (k : Nat) : SlD w a (l.take k) := by
  rcases h.out with rfl | ⟨g, off, h1, h2, h3⟩
  · exact ⟨Or.inl (by simp)⟩
  · refine ⟨Or.inr ⟨g, off, h1, h2, fun i d hd => ?_⟩⟩
    rw [List.getElem?_take] at hd
    split at hd
    · exact h3 i d hd
    · cases hd
theorem SlD.drop {w : World} {g off : Nat} {l : List Dg} (h : SlD w (some ⟨g, off, none⟩) l) (k : Nat) : SlD w (some ⟨g, off + k * 32, none⟩) (l.drop k) := by
  rcases h.out with rfl | ⟨g', off', h1, h2, h3⟩
  · exact ⟨Or.inl (by simp)⟩
  · cases h1
    refine ⟨Or.inr ⟨g, _, rfl, h2, fun i d hd => ?_⟩⟩
    rw [List.getElem?_drop] at hd
    rw [Nat.add_assoc, ← Nat.add_mul]
    exact h3 _ d hd
theorem SlS.news {w : World} {ad : Addr} {n c : Nat} {l : List UInt8} (h : SlS w (.slice (some ad) n c) l) : ∀ (j : Nat) (u : Value), (Lib.byteCells l)[j]? = some u → w.cell? (ad.add j) = some u := by
  obtain ⟨ad', c', h1, _, _, h5⟩ := h.out
  cases h1
  exact sll_news h5 (ex_refl _)
/-- append of bytes to bytes of the call's own. -/
theorem wpAppB {ops : Array Oper} {rest : List Oper} {o : Oper} {a : Act} {w : World} {Q : Exit → Act → World → Prop} (s x : Operand) (hgd : o.guard = none)
    (ho : o.op = .call { callee := .builtin .append, args := #[s, x], argTypes := #[22, 22] })
    {Z : Nat} {v vx : Value} {n : Nat} {l r : List UInt8} (hown : w.ownsRow Z 5 1 v n (Lib.byteCells l)) (hs : a.eval s = v) (hx : a.eval x = vx) (hr : SlS w vx r) (hlen : n + r.length ≤ 140737488355328) (hZ : Z ≤ w.heap.size)
    (h : ∀ v' w', w'.ownsRow Z 5 1 v' (n + r.length) (Lib.byteCells (l ++ r)) → Below Z w w' → wpList Tryd.prog ops Q rest (a.put o.dst v') w') : wpList Tryd.prog ops Q (o :: rest) a w := by
  obtain ⟨ad, c, rfl, h1, h2, h3⟩ := hr.out
  refine wpApp appu8 s x hgd ho hown hs ad r.length c (Lib.byteCells r) hx (by rw [bytes_len, Nat.mul_one]) (sll_news h3 (ex_refl _)) (bytes_one _) (by unfold maxLen; omega) (by omega) hZ fun v' w' k1 k2 => ?_
  rw [bytes_app] at k1
  exact h v' w' k1 k2
theorem SlD.at {w : World} {g off : Nat} {l : List Dg} (h : SlD w (some ⟨g, off, none⟩) l) {i : Nat} {d : Dg} (hd : l[i]? = some d) : cellsN w g (off + i * 32) 32 = some (rowB 32 (dF d)) ∧ g < w.heap.size := by
  rcases h.out with rfl | ⟨g', off', h1, h2, h3⟩
  · simp at hd
  · cases h1; exact ⟨h3 i d hd, h2⟩
end Go.Proofs.YtabjamkkhlbajaaDoor
