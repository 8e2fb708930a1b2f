import Derived.Test.YtcdocklbpfdmeaaDoorMLittle
import Derived.Test.YtcdocklbpfdmeaaDoorMBy
import Derived.Test.YtcdocklbpfdmeaaDoorMSum
import Derived.Test.YtcdocklbpfdmeaaDoorMSumR
import Derived.Test.YtcdocklbpfdmeaaDoorMSl
import Derived.Lib.AppendZeros
import Derived.Test.YtcdocklbpfdmeaaDoorMSeq
import Derived.Test.YtcdocklbpfdmeaaDoorMCoS
import Derived.Shelf.RegionOpenPlain

/- Bytes as lists, digests: slices of both; Sum of both texts over lists. -/
set_option linter.unusedSimpArgs false
set_option linter.unusedVariables false
set_option maxRecDepth 20000
namespace Go.Proofs.YtcdocklbpfdmeaaDoor
open Go.RowKit
theorem rowB_list (l : List UInt8) : (rowB l.length (gF l)).toList = Lib.byteCells l := by
  apply List.ext_getElem?
  intro i
  rw [Array.getElem?_toList, rowB_get]
  unfold Lib.byteCells gF
  rw [List.getElem?_map, List.getD_eq_getElem?_getD]
  by_cases h : i < l.length
  · rw [if_pos h, List.getElem?_eq_getElem h]; rfl
  · rw [if_neg h, List.getElem?_eq_none (by omega)]; rfl
theorem rowB_bytes (d : Dg) : (rowB 32 (dF d)).toList = Lib.byteCells (bytesD d) := by
  rw [← rowB_list, bytesD_len]
  exact congrArg Array.toList <| rowB_congr fun i hi => by
    unfold gF bytesD; rw [List.getD_eq_getElem?_getD, List.getElem?_map, List.getElem?_range hi]; rfl
theorem sumD_row (l : List UInt8) : rowB 32 (sumF (gF l) l.length) = rowB 32 (dF (sumD l)) := rowB_congr fun i hi => (dF_ofF _ i hi).symm
/-- A slice that reads as a list of bytes. -/
def SlL (w : World) (a : Option Addr) (l : List UInt8) : Prop := SlB w a l.length (gF l)
theorem SlL.ex {w w' : World} {a : Option Addr} {l : List UInt8} (h : SlL w a l) (k : Ex w w') : SlL w' a l := SlB.ex h k
structure SlT (w : World) (v : Value) (l : List UInt8) : Prop where
  out : ∃ a c, v = .slice a l.length c ∧ l.length ≤ c ∧ c ≤ maxLen ∧ (a = none → c = 0) ∧ SlL w a l
theorem SlT.ex {w w' : World} {v : Value} {l : List UInt8} (h : SlT w v l) (k : Ex w w') : SlT w' v l := by
  obtain ⟨a, c, h1, h2, h3, h4, h5⟩ := h.out
  exact ⟨a, c, h1, h2, h3, h4, h5.ex k⟩
/-- The same, not nil. -/
structure SlS (w : World) (v : Value) (l : List UInt8) : Prop where
  out : ∃ ad c, v = .slice (some ad) l.length c ∧ l.length ≤ c ∧ c ≤ maxLen ∧ SlL w (some ad) l
theorem SlS.ex {w w' : World} {v : Value} {l : List UInt8} (h : SlS w v l) (k : Ex w w') : SlS w' v l := by
  obtain ⟨a, c, h1, h2, h3, h5⟩ := h.out
  exact ⟨a, c, h1, h2, h3, h5.ex k⟩
theorem SlS.slt {w : World} {v : Value} {l : List UInt8} (h : SlS w v l) : SlT w v l := by
  obtain ⟨a, c, h1, h2, h3, h5⟩ := h.out
  exact ⟨some a, c, h1, h2, h3, (fun h => by cases h), h5⟩
theorem owns_slt {w : World} {Z : Nat} {v : Value} {n : Nat} {l : List UInt8} (h : w.ownsRow Z 5 1 v n (Lib.byteCells l)) : SlT w v l := by
  have hn : l.length = n := by have := h.1; simpa [Lib.byteCells] using this
  subst hn
  rw [← rowB_list] at h
  obtain ⟨a, c, h1, h2, h3, h4, h5⟩ := owns_slb h
  exact ⟨a, c, h1, h2, h3, h4, h5⟩
theorem sll_news {w w' : World} {ad : Addr} {l : List UInt8} (h : SlL w (some ad) l) (k : Ex w w') : ∀ (j : Nat) (u : Value), (Lib.byteCells l)[j]? = some u → w'.cell? (ad.add j) = some u := by
  rcases h.out with h0 | ⟨g, off, h1, hg, hc⟩
  · have := List.eq_nil_of_length_eq_zero h0
    subst this; intro j u hu; simp [Lib.byteCells] at hu
  · cases h1
    rw [← rowB_list]
    exact slb_news hg hc k
theorem bytes_one (l : List UInt8) : ∀ u ∈ Lib.byteCells l, u.oneCell' = true := by
  intro u hu
  simp only [Lib.byteCells, List.mem_map] at hu
  obtain ⟨b, _, rfl⟩ := hu; rfl
theorem bytes_len (l : List UInt8) : (Lib.byteCells l).length = l.length := by simp [Lib.byteCells]
theorem bytes_app (l r : List UInt8) : Lib.byteCells l ++ Lib.byteCells r = Lib.byteCells (l ++ r) := by simp [Lib.byteCells]
/-- Cells that lie in a new block. -/
theorem sll_block {w : World} {g : Nat} {l : List UInt8} {t : TypeId} {fr : Nat × Nat} {cs : Array Value} (hb : w.heap[g]? = some (.cells cs t fr)) (hc : ∀ j, j < l.length → cs[j]? = some (B (gF l j))) : SlL w (some ⟨g, 0, none⟩) l := by
  refine SlB.mk' (Array.getElem?_eq_some_iff.1 hb).1 fun j hj => ?_
  rw [Nat.zero_add, cell_of_row _ g j _ _ _ hb, hc j hj]
theorem sls_dg {w w' : World} {g : Nat} (d : Dg) {t : TypeId} (k : Ex (w.alloc (.cells (rowB 32 (dF d)) t)) w') (hg : g = w.heap.size) : SlS w' (.slice (some ⟨g, 0, none⟩) 32 32) (bytesD d) := by
  subst hg
  refine ⟨_, 32, by rw [bytesD_len], by rw [bytesD_len]; omega, by decide, SlL.ex (sll_block (heap_alloc_new _ _) fun j hj => ?_) k⟩
  rw [bytesD_len] at hj
  rw [rowB_get, if_pos hj]
  unfold gF bytesD; rw [List.getD_eq_getElem?_getD, List.getElem?_map, List.getElem?_range hj]; rfl
theorem sls_one {w w' : World} {g : Nat} (b : UInt8) {t : TypeId} {z : Int} (k : Ex (w.alloc (.cells #[.int .u8 z] t)) w') (hg : g = w.heap.size) (hz : z = bn b) : SlS w' (.slice (some ⟨g, 0, none⟩) 1 1) [b] := by
  subst hg hz
  refine ⟨_, 1, rfl, by simp, by decide, SlL.ex (sll_block (heap_alloc_new _ _) fun j hj => ?_) k⟩
  have : j = 0 := by simpa using hj
  subst this; rfl
theorem sum_slt {w w' : World} (G : Glob w) (k : Ex w w') {v : Value} {l : List UInt8} (h : SlT w' v l) (h48 : l.length ≤ 281474976710656) :
    Calls Tryd.prog 84 #[v] w' (Post w' (.agg (rowB 32 (dF (sumD l))))) := by
  obtain ⟨a, c, rfl, h2, h3, h4, h5⟩ := h.out
  have := sum_glob G k a l.length c (gF l) h2 h3 h48 h5
  rwa [sumD_row] at this
theorem refsum_slt {w' : World} {v : Value} {l : List UInt8} (h : SlT w' v l) (h48 : l.length ≤ 281474976710656) :
    Calls Tryd.prog 70 #[v] w' (Post w' (.agg (rowB 32 (dF (sumD l))))) := by
  obtain ⟨a, c, rfl, h2, h3, h4, h5⟩ := h.out
  have := refsum_any a l.length c (gF l) w' h2 h3 h48 h5
  rwa [sumD_row] at this
theorem slt_nil (w : World) : SlT w (.slice none 0 0) [] := ⟨none, 0, rfl, by simp, by decide, fun _ => rfl, SlB.zero _ _ _⟩
/-- Digests that are held against one another. -/
theorem eqD (d d' : Dg) : eqF (dF d) (dF d') 32 = decide (d = d') := by
  rw [Bool.eq_iff_iff, eqF_true, decide_eq_true_eq]
  exact ⟨dF_inj, fun h i _ => by rw [h]⟩
/-- A slice of digests. -/
structure SlD (w : World) (a : Option Addr) (l : List Dg) : Prop where
  out : l = [] ∨ ∃ g off, a = some ⟨g, off, none⟩ ∧ g < w.heap.size ∧ ∀ i d, l[i]? = some d → cellsN w g (off + i * 32) 32 = some (rowB 32 (dF d))
theorem SlD.ex {w w' : World} {a : Option Addr} {l : List Dg} (h : SlD w a l) (k : Ex w w') : SlD w' a l := by
  obtain ⟨X, rfl⟩ := k
  rcases h.out with h | ⟨g, off, h1, h2, h3⟩
  · exact ⟨Or.inl h⟩
  · refine ⟨Or.inr ⟨g, off, h1, by rw [wx_size]; omega, fun i d hd => ?_⟩⟩
    rw [cellsN_congr fun j _ => wx_cell w X _ h2]; exact h3 i d hd
theorem SlD.pos {w : World} {a : Option Addr} {l : List Dg} (h : SlD w a l) (hn : 0 < l.length) : ∃ g off, a = some ⟨g, off, none⟩ ∧ g < w.heap.size ∧ ∀ i d, l[i]? = some d → cellsN w g (off + i * 32) 32 = some (rowB 32 (dF d)) := by
  rcases h.out with rfl | h
  · simp at hn
  · exact h
theorem SlD.nil (w : World) (a : Option Addr) : SlD w a [] := ⟨Or.inl rfl⟩
theorem SlD.take {w : World} {a : Option Addr} {l : List Dg} (h : SlD w a l) (k : Nat) : SlD w a (l.take k) := by
  rcases h.out with rfl | ⟨g, off, h1, h2, h3⟩
  · exact ⟨Or.inl (by simp)⟩
  · refine ⟨Or.inr ⟨g, off, h1, h2, fun i d hd => ?_⟩⟩
    rw [List.getElem?_take] at hd
    split at hd
    · exact h3 i d hd
    · cases hd
theorem SlD.drop {w : World} {g off : Nat} {l : List Dg} (h : SlD w (some ⟨g, off, none⟩) l) (k : Nat) : SlD w (some ⟨g, off + k * 32, none⟩) (l.drop k) := by
  rcases h.out with rfl | ⟨g', off', h1, h2, h3⟩
  · exact ⟨Or.inl (by simp)⟩
  · cases h1
    refine ⟨Or.inr ⟨g, _, rfl, h2, fun i d hd => ?_⟩⟩
    rw [List.getElem?_drop] at hd
    rw [Nat.add_assoc, ← Nat.add_mul]
    exact h3 _ d hd
theorem SlS.news {w : World} {ad : Addr} {n c : Nat} {l : List UInt8} (h : SlS w (.slice (some ad) n c) l) : ∀ (j : Nat) (u : Value), (Lib.byteCells l)[j]? = some u → w.cell? (ad.add j) = some u := by
  obtain ⟨ad', c', h1, _, _, h5⟩ := h.out
  cases h1
  exact sll_news h5 (ex_refl _)
/-- append of bytes to bytes of the call's own. -/
theorem wpAppB {ops : Array Oper} {rest : List Oper} {o : Oper} {a : Act} {w : World} {Q : Exit → Act → World → Prop} (s x : Operand) (hgd : o.guard = none)
    (ho : o.op = .call { callee := .builtin .append, args := #[s, x], argTypes := #[35, 35] })
    {Z : Nat} {v vx : Value} {n : Nat} {l r : List UInt8} (hown : w.ownsRow Z 5 1 v n (Lib.byteCells l)) (hs : a.eval s = v) (hx : a.eval x = vx) (hr : SlS w vx r) (hlen : n + r.length ≤ 140737488355328) (hZ : Z ≤ w.heap.size)
    (h : ∀ v' w', w'.ownsRow Z 5 1 v' (n + r.length) (Lib.byteCells (l ++ r)) → Below Z w w' → wpList Tryd.prog ops Q rest (a.put o.dst v') w') : wpList Tryd.prog ops Q (o :: rest) a w := by
  obtain ⟨ad, c, rfl, h1, h2, h3⟩ := hr.out
  refine wpApp appu8 s x hgd ho hown hs ad r.length c (Lib.byteCells r) hx (by rw [bytes_len, Nat.mul_one]) (sll_news h3 (ex_refl _)) (bytes_one _) (by unfold maxLen; omega) (by omega) hZ fun v' w' k1 k2 => ?_
  rw [bytes_app] at k1
  exact h v' w' k1 k2
theorem SlD.at {w : World} {g off : Nat} {l : List Dg} (h : SlD w (some ⟨g, off, none⟩) l) {i : Nat} {d : Dg} (hd : l[i]? = some d) : cellsN w g (off + i * 32) 32 = some (rowB 32 (dF d)) ∧ g < w.heap.size := by
  rcases h.out with rfl | ⟨g', off', h1, h2, h3⟩
  · simp at hd
  · cases h1; exact ⟨h3 i d hd, h2⟩
end Go.Proofs.YtcdocklbpfdmeaaDoor

/- slices.Concat of rows of bytes. -/
set_option linter.unusedSimpArgs false
set_option linter.unusedVariables false
set_option maxRecDepth 20000
namespace Go.Proofs.YtcdocklbpfdmeaaDoor
open Go.RowKit
theorem grow_nil (n : Nat) (w : World) (hn : n ≤ 140737488355328) :
    Calls Tryd.prog 154 #[.slice none 0 0, I n] w fun e w' => ∃ v, e = .returned v ∧ w'.ownsRow w.heap.size 5 1 v 0 [] ∧ Ex w w' := by
  obtain ⟨i, hi, h1', h2', h3'⟩ := info_parts appu8.hi
  rcases Nat.eq_zero_or_pos n with h0 | hpos
  · subst h0
    go_enter Tryd.func154, Tryd.ntmps154
    go_wp2
    go_ret
    exact ⟨_, rfl, owns_nil _ _ _ _, (by (try show Ex _ _); with_reducible repeat (first | exact ex_refl _ | assumption | refine ex_drewL ?_ | refine ex_appR ?_ _ | refine ex_wx ?_ _ | refine ex_drew ?_ | refine ex_alloc ?_ _))⟩
  · have hr := Lib.run_append_nil_zeros w 35 3 35 5 i (.int .u8 0) .i64 .i64 appu8.ht Tryd.underlying3 hi h1' n hpos (by omega) (by omega) (by rw [h3']; omega)
    have HR := Lib.hid hr
    clear hr
    have e1 : (0 : Int) < n := by omega
    go_enter Tryd.func154, Tryd.ntmps154
    go_wp2_with (at_builtin; refine Lib.wpList_append_run _ rfl _ _ _ _ rfl _ _ rfl rfl _ _ HR.out ?_)
    go_ret
    refine ⟨_, rfl, ?_, (by (try show Ex _ _); with_reducible repeat (first | exact ex_refl _ | assumption | refine ex_drewL ?_ | refine ex_appR ?_ _ | refine ex_wx ?_ _ | refine ex_drew ?_ | refine ex_alloc ?_ _))⟩
    have h1 := grownCap_ge w n 0 5
    refine owns_drew (owns_new (xs := []) rfl (Nat.le_refl _) (Nat.zero_le _) (grownCap_le_maxLen w n 0 5 (by unfold maxLen; omega)) ?_ (by simp))
    rw [Array.size_append]
    have := manyC_size (.int .u8 0)
    unfold manyC madeCells at this
    simp [Builtin.zeroCells]
    omega
def catL (L : Nat → List UInt8) (n : Nat) : List UInt8 := (List.range n).flatMap L
theorem catL_succ (L : Nat → List UInt8) (n : Nat) : catL L (n + 1) = catL L n ++ L n := by
  unfold catL; rw [List.range_succ, List.flatMap_append]; simp
/-- **Concat**, a row of its own. -/
theorem concat_own (a : Option Addr) (n c : Nat) (V : Nat → Value) (L : Nat → List UInt8) (w : World) (hn : n ≤ c) (hc : c ≤ maxLen) (hs : SlV w a n V) (hV : ∀ i, i < n → SlS w (V i) (L i)) (hlen : ∀ k, k ≤ n → (catL L k).length ≤ 140737488355328) :
    Calls Tryd.prog 145 #[.slice a n c] w fun e w' => ∃ v, e = .returned v ∧ w'.ownsRow w.heap.size 5 1 v (catL L n).length (Lib.byteCells (catL L n)) ∧ Ex w w' := by
  unfold maxLen at hc
  have HV : Hid (∀ i, i < n → SlS w (V i) (L i)) := Lib.hid hV
  have HL : Hid (∀ k, k ≤ n → (catL L k).length ≤ 140737488355328) := Lib.hid hlen
  clear hV hlen
  go_enter Tryd.func145, Tryd.ntmps145
  go_wp2
  go_loopw [3, 11] (fun s i wr => ∃ k : Nat, k ≤ n ∧ s = I (catL L k).length ∧ i = I k ∧ wr = w) (fun _ i _ => n - (intOf i).toNat)
  case atStart => exact ⟨0, by omega, rfl, rfl, rfl⟩
  case round =>
    obtain ⟨k, hk, rfl, rfl, rfl⟩ := hrel
    by_cases hlt : k < n
    · obtain ⟨g, off, rfl, hg, hcell⟩ := hs.pos (by omega)
      have h1 := hcell k hlt
      obtain ⟨ad, c2, hv, _⟩ := (HV.out k hlt).out
      rw [hv] at h1
      clear hcell hv
      have hl1 := HL.out (k + 1) (by omega)
      rw [catL_succ, List.length_append] at hl1
      have hneg : ¬ ((catL L k).length : Int) + (L k).length < 0 := by omega
      go_wp2
      refine ⟨⟨k + 1, by omega, ?_, by go_num, by trivial⟩, by simp [intOf]; omega⟩
      rw [catL_succ, List.length_append]; go_num
    · obtain rfl : k = n := by omega
      have hl1 := HL.out k (by omega)
      clear hlt hk
      go_wp2_with (go_at_call 154; refine (grow_nil _ _ hl1).mono ?_; rintro e w' ⟨v, rfl, hown, X, rfl⟩)
      go_loopw [6, 27] (fun v i W2 => ∃ q : Nat, q ≤ k ∧ i = I q ∧ W2.ownsRow wr.heap.size 5 1 v (catL L q).length (Lib.byteCells (catL L q)) ∧ Ex wr W2) (fun _ i _ => k - (intOf i).toNat)
      case atStart => exact ⟨0, by omega, rfl, hown, (by (try show Ex _ _); with_reducible repeat (first | exact ex_refl _ | assumption | refine ex_drewL ?_ | refine ex_appR ?_ _ | refine ex_wx ?_ _ | refine ex_drew ?_ | refine ex_alloc ?_ _))⟩
      case round =>
        obtain ⟨q, hq, rfl, hown, X2, rfl⟩ := hrel
        by_cases hlt : q < k
        · obtain ⟨g, off, rfl, hg, hcell⟩ := hs.pos (by omega)
          have h1 := hcell q hlt
          obtain ⟨ad, c2, hv, k1, k2, k3⟩ := (HV.out q hlt).out
          rw [hv] at h1
          clear hcell hv
          have hl2 := HL.out (q + 1) (by omega)
          rw [catL_succ, List.length_append] at hl2
          have HNEWS := Lib.hid (sll_news k3 (w' := wx wr X2) ⟨X2, rfl⟩)
          go_wp2_with (at_builtin; refine wpApp appu8 _ _ rfl rfl hown rfl ad (L q).length c2 (Lib.byteCells (L q)) rfl (by rw [bytes_len, Nat.mul_one]) HNEWS.out (bytes_one _) (by unfold maxLen; omega) (by omega) (by simp [go_sem]) (fun v' w1 hown2 hbe => ?_))
          refine ⟨⟨q + 1, by omega, by go_num, ?_, ex_of_below ((ex_below (by (try show Ex _ _); with_reducible repeat (first | exact ex_refl _ | assumption | refine ex_drewL ?_ | refine ex_appR ?_ _ | refine ex_wx ?_ _ | refine ex_drew ?_ | refine ex_alloc ?_ _))).trans hbe)⟩, by simp [intOf]; omega⟩
          rw [catL_succ, List.length_append, ← bytes_app]
          exact hown2
        · obtain rfl : q = k := by omega
          clear hlt hq
          go_wp2
          go_ret
          exact ⟨_, rfl, hown, (by (try show Ex _ _); with_reducible repeat (first | exact ex_refl _ | assumption | refine ex_drewL ?_ | refine ex_appR ?_ _ | refine ex_wx ?_ _ | refine ex_drew ?_ | refine ex_alloc ?_ _))⟩
def at3 {α : Type} (x y z : α) (i : Nat) : α := if i = 0 then x else if i = 1 then y else z
theorem cat3 (x y z : List UInt8) : catL (at3 x y z) 3 = x ++ (y ++ z) := by
  rw [catL_succ, catL_succ, catL_succ]; simp [catL, at3]
end Go.Proofs.YtcdocklbpfdmeaaDoor

/- Node, Leaf of both texts. -/
set_option linter.unusedSimpArgs false
set_option linter.unusedVariables false
set_option maxRecDepth 20000
namespace Go.Proofs.YtcdocklbpfdmeaaDoor
open Go.RowKit
theorem owns_one {w w2 : World} {Z : Nat} (b : UInt8) {z : Int} {v : Value} (k : Ex (w.alloc (.cells #[.int .u8 z] 5)) w2) (hv : v = .slice (some ⟨w.heap.size, 0, none⟩) 1 1) (hz : z = bn b) (hZ : Z ≤ w.heap.size) : w2.ownsRow Z 5 1 v 1 (Lib.byteCells [b]) := by
  subst hz hv
  exact owns_ex (owns_new rfl hZ (by omega) (by decide) rfl rfl) k
abbrev w3 (w : World) (a b : Dg) : World := ((w.alloc (.cells (rowB 32 (dF a)) 46)).alloc (.cells (rowB 32 (dF b)) 46)).alloc (.cells (rowB 32 fun _ => 0) 46)
end Go.Proofs.YtcdocklbpfdmeaaDoor

/- Collide: widths; digests of a width, of both texts. -/
set_option linter.unusedSimpArgs false
set_option linter.unusedVariables false
set_option linter.unnecessarySimpa false
set_option maxRecDepth 20000
namespace Go.Proofs.YtcdocklbpfdmeaaDoor
open Go.RowKit
def wideB (n : Int) : Bool := decide (0 ≤ n ∧ n ≤ 256)
theorem wide_any (n : Int) (w : World) : Calls Tryd.prog 60 #[I n] w (Post w (.bool (wideB n))) := by
  by_cases h1 : 0 ≤ n
  · by_cases h2 : n ≤ 256
    · have hb : wideB n = true := decide_eq_true ⟨h1, h2⟩
      have t1 : decide (0 ≤ n) = true := decide_eq_true h1
      have t2 : decide (n ≤ 256) = true := decide_eq_true h2
      rw [hb]
      clear hb
      go_enter Tryd.func60, Tryd.ntmps60
      go_wp2
      go_ret
      exact post_mk rfl (by (try show Ex _ _); with_reducible repeat (first | exact ex_refl _ | assumption | refine ex_drewL ?_ | refine ex_appR ?_ _ | refine ex_wx ?_ _ | refine ex_drew ?_ | refine ex_alloc ?_ _))
    · have hb : wideB n = false := decide_eq_false (by omega)
      have t1 : decide (0 ≤ n) = true := decide_eq_true h1
      have t2 : decide (n ≤ 256) = false := decide_eq_false h2
      rw [hb]
      clear hb
      go_enter Tryd.func60, Tryd.ntmps60
      go_wp2
      go_ret
      exact post_mk rfl (by (try show Ex _ _); with_reducible repeat (first | exact ex_refl _ | assumption | refine ex_drewL ?_ | refine ex_appR ?_ _ | refine ex_wx ?_ _ | refine ex_drew ?_ | refine ex_alloc ?_ _))
  · have hb : wideB n = false := decide_eq_false (by omega)
    have t1 : decide (0 ≤ n) = false := decide_eq_false h1
    rw [hb]
    clear hb
    go_enter Tryd.func60, Tryd.ntmps60
    go_wp2
    go_ret
    exact post_mk rfl (by (try show Ex _ _); with_reducible repeat (first | exact ex_refl _ | assumption | refine ex_drewL ?_ | refine ex_appR ?_ _ | refine ex_wx ?_ _ | refine ex_drew ?_ | refine ex_alloc ?_ _))
theorem refwide_any (n : Int) (w : World) : Calls Tryd.prog 25 #[I n] w (Post w (.bool (wideB n))) := by
  by_cases h1 : 0 ≤ n
  · by_cases h2 : n ≤ 256
    · have hb : wideB n = true := decide_eq_true ⟨h1, h2⟩
      have t1 : decide (0 ≤ n) = true := decide_eq_true h1
      have t2 : decide (n ≤ 256) = true := decide_eq_true h2
      rw [hb]
      clear hb
      go_enter Tryd.func25, Tryd.ntmps25
      go_wp2
      go_ret
      exact post_mk rfl (by (try show Ex _ _); with_reducible repeat (first | exact ex_refl _ | assumption | refine ex_drewL ?_ | refine ex_appR ?_ _ | refine ex_wx ?_ _ | refine ex_drew ?_ | refine ex_alloc ?_ _))
    · have hb : wideB n = false := decide_eq_false (by omega)
      have t1 : decide (0 ≤ n) = true := decide_eq_true h1
      have t2 : decide (n ≤ 256) = false := decide_eq_false h2
      rw [hb]
      clear hb
      go_enter Tryd.func25, Tryd.ntmps25
      go_wp2
      go_ret
      exact post_mk rfl (by (try show Ex _ _); with_reducible repeat (first | exact ex_refl _ | assumption | refine ex_drewL ?_ | refine ex_appR ?_ _ | refine ex_wx ?_ _ | refine ex_drew ?_ | refine ex_alloc ?_ _))
  · have hb : wideB n = false := decide_eq_false (by omega)
    have t1 : decide (0 ≤ n) = false := decide_eq_false h1
    rw [hb]
    clear hb
    go_enter Tryd.func25, Tryd.ntmps25
    go_wp2
    go_ret
    exact post_mk rfl (by (try show Ex _ _); with_reducible repeat (first | exact ex_refl _ | assumption | refine ex_drewL ?_ | refine ex_appR ?_ _ | refine ex_wx ?_ _ | refine ex_drew ?_ | refine ex_alloc ?_ _))
theorem and_lowF : ∀ (s : Fin 8) (x : Fin 256), 0 < s.val → bits BinOp.and IntKind.u8 (bn (UInt8.ofNat x.val)) (255 * 2 ^ (8 - s.val) % 256) = bn (lowB s.val (UInt8.ofNat x.val)) := by decide +kernel
theorem and_lowB {n k : Nat} {x : UInt8} (h1 : 8 * k < n) (h2 : n < 8 * k + 8) : bits BinOp.and IntKind.u8 (bn x) (255 * 2 ^ (8 * k + 8 - n) % 256) = bn (lowB (n - 8 * k) x) := by
  have := and_lowF ⟨n - 8 * k, by omega⟩ ⟨x.toNat, x.toNat_lt⟩ (by simp; omega)
  simp only [UInt8.ofNat_toNat] at this
  rwa [show 8 - (n - 8 * k) = 8 * k + 8 - n by omega] at this
/-- The program's digest, where k bytes are done. -/
def lowK (n : Nat) (d : Dg) (k : Nat) : Nat → UInt8 := fun j => if j < k then lowB (n - 8 * j) (dF d j) else dF d j
theorem lowK_all (n : Nat) (d : Dg) : rowB 32 (lowK n d 32) = rowB 32 (dF (widD n d)) := rowB_congr fun i hi => by
  unfold lowK widD
  rw [if_pos hi, dF_ofF _ _ hi]
theorem lowK_keep {n : Nat} {d : Dg} {k : Nat} (h : lowB (n - 8 * k) (dF d k) = dF d k) : lowK n d (k + 1) = lowK n d k := by
  funext j
  unfold lowK
  by_cases h1 : j < k
  · rw [if_pos (by omega), if_pos h1]
  · by_cases h2 : j = k
    · subst h2; rw [if_pos (by omega), if_neg h1, h]
    · rw [if_neg (by omega), if_neg h1]
theorem lowK_upd {n : Nat} {d : Dg} {k : Nat} {x : UInt8} (h : lowB (n - 8 * k) (dF d k) = x) : upd (lowK n d k) k x = lowK n d (k + 1) := by
  funext j
  simp only [lowK, upd]
  by_cases h1 : j = k
  · subst h1; rw [if_pos rfl, if_pos (by omega), h]
  · rw [if_neg h1]
    by_cases h2 : j < k
    · rw [if_pos h2, if_pos (by omega)]
    · rw [if_neg h2, if_neg (by omega)]
theorem lowK_at (n : Nat) (d : Dg) (k : Nat) : lowK n d k k = dF d k := by unfold lowK; rw [if_neg (by omega)]
set_option maxHeartbeats 1000000 in
theorem wsum_any {w0 : World} (G : Glob w0) (n : Nat) (hn : n ≤ 256) {v : Value} {l : List UInt8} {w : World} (k0 : Ex w0 w) (hs : SlT w v l) (h48 : l.length ≤ 1000000) :
    Calls Tryd.prog 61 #[I n, v] w (Post w (.agg (rowB 32 (dF (sumW n l))))) := by
  have HS : Hid (∀ w', Ex w w' → Calls Tryd.prog 84 #[v] w' (Post w' (.agg (rowB 32 (dF (sumD l)))))) := Lib.hid fun w' k => sum_slt G (ex_trans k0 k) (hs.ex k) (by omega)
  unfold sumW
  generalize sumD l = d at HS ⊢
  clear G k0 hs h48
  go_enter Tryd.func61, Tryd.ntmps61
  go_wp2_with (go_at_call 84; (with_reducible refine (HS.out _ (by (try show Ex _ _); with_reducible repeat (first | exact ex_refl _ | assumption | refine ex_drewL ?_ | refine ex_appR ?_ _ | refine ex_wx ?_ _ | refine ex_drew ?_ | refine ex_alloc ?_ _))).mono ?_); rintro e w2 ⟨rfl, ⟨bl, dr⟩, rfl⟩)
  go_loopw [11] (fun i W => ∃ k dr : Nat, k ≤ 32 ∧ i = I k ∧ W = (wx (w.alloc (.cells (rowB 32 fun _ => 0) 46)) ⟨bl, dr⟩).alloc (.cells (rowB 32 (lowK n d k)) 46)) (fun i _ => 32 - (intOf i).toNat)
  case atStart => exact ⟨0, dr, by omega, rfl, by rfl⟩
  case round =>
    obtain ⟨k, dr2, hk, rfl, rfl⟩ := hrel
    by_cases hlt : k < 32
    · have hlt2 : (k : Int) < 32 := by omega
      have hat := lowK_at n d k
      by_cases hA : n ≤ 8 * k
      · have hA2 : (n : Int) ≤ 8 * k := by omega
        have hx : upd (lowK n d k) k 0 = lowK n d (k + 1) := lowK_upd (by unfold lowB; rw [if_pos (by omega)])
        clear HS hat
        go_wp2
        refine ⟨⟨k + 1, dr2, by omega, by go_num, ?_⟩, by simp [intOf]; omega⟩
        have e0 : (rowB 32 (lowK n d k)).setIfInBounds k (.int .u8 0) = rowB 32 (upd (lowK n d k) k 0) := rowB_set 32 _ k 0
        rw [e0, hx]
      · have hA2 : ¬ (n : Int) ≤ 8 * k := by omega
        by_cases hB : n < 8 * k + 8
        · have hB2 : (n : Int) < 8 * k + 8 := by omega
          have hB3 : ¬ (8 * (k : Int) + 8 - n < 0) := by omega
          clear HS
          have mixed : Tryd.prog.follows .mixedOrders = true := by kernel_rfl
          go_wp2
          go_big_region_o
          go_wp2
          refine ⟨⟨k + 1, dr2 + 1, by omega, by go_num, ?_⟩, by simp [intOf]; omega⟩
          rw [and_lowB (by omega) (by omega)]
          have e0 : (rowB 32 (lowK n d k)).setIfInBounds k (.int .u8 (bn (lowB (n - 8 * k) (dF d k)))) = rowB 32 (upd (lowK n d k) k (lowB (n - 8 * k) (dF d k))) := rowB_set 32 _ k _
          rw [e0, lowK_upd rfl]
          rfl
        · have hB2 : ¬ (n : Int) < 8 * k + 8 := by omega
          clear HS
          have hx := lowK_keep (n := n) (d := d) (k := k) (by unfold lowB; rw [if_neg (by omega), if_neg (by omega)])
          go_wp2
          refine ⟨⟨k + 1, dr2, by omega, by go_num, ?_⟩, by simp [intOf]; omega⟩
          rw [hx]
    · obtain rfl : k = 32 := by omega
      rw [lowK_all]
      clear HS hlt hk
      go_wp2
      exact ret_row (cs := rowB 32 (dF (widD n d))) Tryd.results61 Tryd.underlying46 rfl info_id rfl (by simp [go_sem]; omega) rfl (post_mk rfl (by (try show Ex _ _); with_reducible repeat (first | exact ex_refl _ | assumption | refine ex_drewL ?_ | refine ex_appR ?_ _ | refine ex_wx ?_ _ | refine ex_drew ?_ | refine ex_alloc ?_ _)))
theorem bit_testF : ∀ (r : Fin 8) (x : Fin 256), (bits BinOp.and IntKind.u8 (bn (UInt8.ofNat x.val)) (128 / 2 ^ r.val) != 0) = decide (UInt8.ofNat x.val &&& (128 >>> UInt8.ofNat r.val) ≠ 0) := by decide +kernel
theorem bit_subF : ∀ (r : Fin 8) (x : Fin 256), (bn (UInt8.ofNat x.val) - 128 / 2 ^ r.val) % 256 = bn (UInt8.ofNat x.val - (128 >>> UInt8.ofNat r.val)) := by decide +kernel
theorem bit_test (r : Nat) (h : r < 8) (x : UInt8) : (bits BinOp.and IntKind.u8 (bn x) (128 / 2 ^ r) != 0) = decide (x &&& (128 >>> UInt8.ofNat r) ≠ 0) := by
  have := bit_testF ⟨r, h⟩ ⟨x.toNat, x.toNat_lt⟩
  simpa only [UInt8.ofNat_toNat] using this
theorem bit_sub (r : Nat) (h : r < 8) (x : UInt8) : (bn x - 128 / 2 ^ r) % 256 = bn (x - (128 >>> UInt8.ofNat r)) := by
  have := bit_subF ⟨r, h⟩ ⟨x.toNat, x.toNat_lt⟩
  simpa only [UInt8.ofNat_toNat] using this
set_option maxHeartbeats 1000000 in
theorem digest_any (n : Nat) (hn : n ≤ 256) {v : Value} {l : List UInt8} {w : World} (hs : SlT w v l) (h48 : l.length ≤ 1000000) :
    Calls Tryd.prog 26 #[I n, v] w (Post w (.agg (rowB 32 (dF (sumW n l))))) := by
  have HS : Hid (∀ w', Ex w w' → Calls Tryd.prog 70 #[v] w' (Post w' (.agg (rowB 32 (dF (sumD l)))))) := Lib.hid fun w' k => refsum_slt (hs.ex k) (by omega)
  unfold sumW
  generalize sumD l = d at HS ⊢
  clear hs h48
  have h0 : rowB 32 (dF d) = rowB 32 (midD n n d) := rowB_congr fun i hi => (mid_start n d i).symm
  go_enter Tryd.func26, Tryd.ntmps26
  go_wp2_with (go_at_call 70; (with_reducible refine (HS.out _ (by (try show Ex _ _); with_reducible repeat (first | exact ex_refl _ | assumption | refine ex_drewL ?_ | refine ex_appR ?_ _ | refine ex_wx ?_ _ | refine ex_drew ?_ | refine ex_alloc ?_ _))).mono ?_); rintro e w2 ⟨rfl, ⟨bl, dr⟩, rfl⟩)
  go_loopw [6] (fun i W => ∃ k dr : Nat, n ≤ k ∧ k ≤ 256 ∧ i = I k ∧ W = (wx (w.alloc (.cells (rowB 32 fun _ => 0) 46)) ⟨bl, dr⟩).alloc (.cells (rowB 32 (midD n k d)) 46)) (fun i _ => 256 - (intOf i).toNat)
  case atStart => exact ⟨n, dr, Nat.le_refl _, hn, rfl, by rw [← h0]⟩
  case round =>
    clear HS h0
    obtain ⟨k, dr2, hnk, hk, rfl, rfl⟩ := hrel
    by_cases hlt : k < 256
    · have hlt2 : (k : Int) < 256 := by omega
      have hd : (k : Int).tdiv 8 = ((k / 8 : Nat) : Int) := by rw [Int.tdiv_eq_ediv_of_nonneg (by omega)]; omega
      have hr : (k : Int).tmod 8 = ((k % 8 : Nat) : Int) := by rw [Int.tmod_eq_emod_of_nonneg (by omega)]; omega
      have hstep := mid_step d hnk
      generalize hx : midD n k d (k / 8) = x
      have hbt := bit_test (k % 8) (Nat.mod_lt _ (by omega)) x
      have hbs := Lib.hid (bit_sub (k % 8) (Nat.mod_lt _ (by omega)) x)
      by_cases hb : x &&& (128 >>> UInt8.ofNat (k % 8)) ≠ 0
      · rw [decide_eq_true hb] at hbt
        have hx2 : rowB 32 (upd (midD n k d) (k / 8) (x - (128 >>> UInt8.ofNat (k % 8)))) = rowB 32 (midD n (k + 1) d) := rowB_congr fun j _ => by
          rw [hstep j]
          unfold upd
          split
          · rename_i e; subst e; unfold clr1; rw [hx, if_pos hb]
          · rfl
        replace hx2 := Lib.hid hx2
        clear hstep hb
        go_wp2
        refine ⟨⟨k + 1, dr2, by omega, by omega, by go_num, ?_⟩, by simp [intOf]; omega⟩
        rw [← hx2.out]
        refine (congrArg (fun z => World.alloc _ (.cells (Array.setIfInBounds _ _ (.int .u8 z)) _)) hbs.out).trans ?_
        exact congrArg (fun r => World.alloc _ (.cells r _)) (rowB_set 32 _ _ _)
      · rw [decide_eq_false hb] at hbt
        have hx2 : rowB 32 (midD n k d) = rowB 32 (midD n (k + 1) d) := rowB_congr fun j _ => by
          rw [hstep j]
          split
          · rename_i e; subst e; unfold clr1; rw [hx, if_neg hb]
          · rfl
        replace hx2 := Lib.hid hx2
        clear hstep hb
        go_wp2
        refine ⟨⟨k + 1, dr2, by omega, by omega, by go_num, ?_⟩, by simp [intOf]; omega⟩
        rw [hx2.out]
    · obtain rfl : k = 256 := by omega
      have he : rowB 32 (midD n 256 d) = rowB 32 (dF (widD n d)) := rowB_congr fun i hi => mid_end n d hi
      rw [he]
      clear hlt hk he
      go_wp2
      exact ret_row (cs := rowB 32 (dF (widD n d))) Tryd.results26 Tryd.underlying46 rfl info_id rfl (by simp [go_sem]; omega) rfl (post_mk rfl (by (try show Ex _ _); with_reducible repeat (first | exact ex_refl _ | assumption | refine ex_drewL ?_ | refine ex_appR ?_ _ | refine ex_wx ?_ _ | refine ex_drew ?_ | refine ex_alloc ?_ _)))
end Go.Proofs.YtcdocklbpfdmeaaDoor

/- Roots of both texts. -/
set_option linter.unusedSimpArgs false
set_option linter.unusedVariables false
set_option maxRecDepth 20000
namespace Go.Proofs.YtcdocklbpfdmeaaDoor
open Go.RowKit
end Go.Proofs.YtcdocklbpfdmeaaDoor

/- Digests that a row holds. -/
set_option linter.unusedSimpArgs false
set_option linter.unusedVariables false
set_option maxRecDepth 20000
namespace Go.Proofs.YtcdocklbpfdmeaaDoor
open Go.RowKit
def dgs (n : Nat) (E : Nat → (Nat → UInt8)) : List Dg := (List.range n).map fun i => ofF (E i)
theorem dgs_len (n : Nat) (E : Nat → (Nat → UInt8)) : (dgs n E).length = n := by simp [dgs]
theorem row_ofF (f : Nat → UInt8) : rowB 32 (dF (ofF f)) = rowB 32 f := rowB_congr fun i hi => dF_ofF f i hi
theorem sld_of_sln {w : World} {a : Option Addr} {n : Nat} {E : Nat → (Nat → UInt8)} (h : SlN w a n 32 fun i => rowB 32 (E i)) : SlD w a (dgs n E) := by
  rcases h.out with rfl | ⟨g, off, h1, h2, h3⟩
  · exact ⟨Or.inl rfl⟩
  · refine ⟨Or.inr ⟨g, off, h1, h2, fun i d hd => ?_⟩⟩
    have hi : i < n := by
      have := (List.getElem?_eq_some_iff.1 hd).1
      rwa [dgs_len] at this
    unfold dgs at hd
    rw [List.getElem?_map, List.getElem?_range hi] at hd
    obtain rfl : ofF (E i) = d := by simpa using hd
    rw [h3 i hi, row_ofF]
end Go.Proofs.YtcdocklbpfdmeaaDoor
