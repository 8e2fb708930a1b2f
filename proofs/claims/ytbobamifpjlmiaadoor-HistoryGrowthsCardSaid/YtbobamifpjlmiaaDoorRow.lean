/- Rows of what is asked: read, laid, opened. -/
import Derived.Test.YtbobamifpjlmiaaDoorHC
set_option linter.unusedSimpArgs false
set_option linter.unusedVariables false
set_option maxRecDepth 20000
namespace Go.Proofs.YtbobamifpjlmiaaDoor
open Go.RowKit Go.ChangeShapes
theorem info_rowE : (Tryd.prog.info? 43).map (·.size) = some 35 := by kernel_rfl
@[go_sem] theorem load_rowE (b o : Nat) (w : World) : loadRun Tryd.prog 43 (.pointer (some ⟨b, o, none⟩)) w = match cellsN w b o 35 with | some cs => .ok (.value (.agg cs)) w | none => loadRaw Tryd.prog 43 (.pointer (some ⟨b, o, none⟩)) w := loadRun_row Tryd.underlying43 rfl info_rowE b o w
@[go_sem] theorem store_rowE (b o : Nat) (vs : Array Value) (w : World) : storeRun Tryd.prog 43 (.pointer (some ⟨b, o, none⟩)) (.agg vs) w = if (vs.size == 35 && (cellsN w b o 35).isSome && !frozenN w b o 35 && oneCells vs) = true then .ok .skip (w.setCells b o vs.toList) else storeRaw Tryd.prog 43 (.pointer (some ⟨b, o, none⟩)) (.agg vs) w := storeRun_row info_rowE b o vs w
structure RowE where
  i : Int
  n : Int
  d : Dg
  a : Option Addr
  len : Nat
  cap : Nat
  l : List Dg
instance : Inhabited RowE := ⟨⟨0, 0, zeroD, none, 0, 0, []⟩⟩
def RowE.cells (e : RowE) : Array Value := #[I e.i, I e.n] ++ rowB 32 (dF e.d) ++ #[.slice e.a e.len e.cap]
structure RowE.ok (e : RowE) (w : World) : Prop where
  hl : e.l.length = e.len
  hc : e.len ≤ e.cap
  hm : e.cap ≤ maxLen
  hn : e.a = none → e.cap = 0
  hs : SlD w e.a e.l
theorem rowE_size (e : RowE) : e.cells.size = 35 := by simp [RowE.cells]
theorem rowE_get (e : RowE) (j : Nat) : e.cells[j]? = if j = 0 then some (I e.i) else if j = 1 then some (I e.n) else if j < 34 then some (B (dF e.d (j - 2))) else if j = 34 then some (.slice e.a e.len e.cap) else none := by
  unfold RowE.cells
  rw [Array.getElem?_append, Array.getElem?_append]
  simp only [Array.size_append, rowB_size, rowB_get]
  match j with
  | 0 => simp
  | 1 => simp
  | j + 2 =>
    by_cases h : j < 32
    · rw [if_pos (by simp; omega), if_neg (by simp), if_pos (by simp; omega), if_neg (by omega), if_neg (by omega), if_pos (by omega)]
      simp
    · by_cases h2 : j = 32
      · subst h2; simp
      · rw [if_neg (by simp; omega), if_neg (by omega), if_neg (by omega), if_neg (by omega), if_neg (by omega), Array.getElem?_eq_none (by simp; omega)]
@[go_sem] theorem rowE_sizeI (e : RowE) : (RowE.cells e).size = 35 := rowE_size e
@[go_sem] theorem rowE_len (e : RowE) : (RowE.cells e).toList.length = 35 := by rw [Array.length_toList, rowE_size]
@[go_sem] theorem rowE_all (e : RowE) : oneCells (RowE.cells e) = true := by
  unfold oneCells RowE.cells
  rw [Array.all_append, Array.all_append, rowB_one]
  simp [Value.oneCell', I]
@[go_sem] theorem rowE_0 (e : RowE) (h : 0 < e.cells.size) : e.cells[0] = I e.i := by
  have := rowE_get e 0; rw [Array.getElem?_eq_getElem h] at this; simpa using this
@[go_sem] theorem rowE_1 (e : RowE) (h : 1 < e.cells.size) : e.cells[1] = I e.n := by
  have := rowE_get e 1; rw [Array.getElem?_eq_getElem h] at this; simpa using this
@[go_sem] theorem rowE_34 (e : RowE) (h : 34 < e.cells.size) : e.cells[34] = .slice e.a e.len e.cap := by
  have := rowE_get e 34; rw [Array.getElem?_eq_getElem h] at this; simpa using this
theorem rowE_ext (e : RowE) : e.cells.extract 2 34 = rowB 32 (dF e.d) := by
  apply arr_ext; intro j
  rw [Array.getElem?_extract, rowE_size, rowE_get, rowB_get]
  by_cases h : j < 32
  · rw [if_pos (by omega), if_neg (by omega), if_neg (by omega), if_pos (by omega), if_pos h, Nat.add_sub_cancel_left]
  · rw [if_neg (by omega), if_neg h]
theorem crow : Tryd.prog.cellsOf 43 = 35 := by kernel_rfl
theorem c1i : Tryd.prog.cellsOf 3 = 1 := by kernel_rfl
theorem c1s : Tryd.prog.cellsOf 22 = 1 := by kernel_rfl
theorem rowE_of_trod {H : Type} {enc : TypeId × Value → H} {w : World} {base : Nat} {sp : Nat → Bool} {held : Bool} {fuel : Nat} {cs : List Value} {x : DataW H × List MemPlace}
    (h : DataW.trod enc Tryd.prog w base sp held fuel 43 cs = some x) : ∃ e : RowE, cs = e.cells.toList ∧ e.ok w := by
  obtain ⟨xs, m, _, _, hl, hxl, hel⟩ := DataW.trod_struct Tryd.underlying43 h
  rw [crow] at hl
  have hxl' : xs.length = 4 := hxl
  have e0 : DataW.trod enc Tryd.prog w base sp held m 3 ((cs.drop 0).take (Tryd.prog.cellsOf 3)) = xs[0]? := hel 0 _ rfl
  have e1 : DataW.trod enc Tryd.prog w base sp held m 3 ((cs.drop 1).take (Tryd.prog.cellsOf 3)) = xs[1]? := hel 1 _ rfl
  have e2 : DataW.trod enc Tryd.prog w base sp held m 26 ((cs.drop 2).take (Tryd.prog.cellsOf 26)) = xs[2]? := hel 2 _ rfl
  have e3 : DataW.trod enc Tryd.prog w base sp held m 22 ((cs.drop 34).take (Tryd.prog.cellsOf 22)) = xs[3]? := hel 3 _ rfl
  rw [c1i] at e0 e1
  rw [cid] at e2
  rw [c1s] at e3
  rw [List.getElem?_eq_getElem (by omega)] at e0 e1 e2 e3
  obtain ⟨i, hi, _, _⟩ := DataW.trod_int Tryd.underlying3 e0
  obtain ⟨n, hn, _, _⟩ := DataW.trod_int Tryd.underlying3 e1
  obtain ⟨f, hf⟩ := arrB_of_trod Tryd.underlying26 Tryd.underlying5 cb cid e2
  obtain ⟨a, len, cap, E, hv, k1, k2, k3, k4⟩ := elems_open (rowB 32) (fun f => rowB_size 32 f) Tryd.underlying22 cid (by decide) (fun _ _ _ h => arrB_of_trod Tryd.underlying26 Tryd.underlying5 cb cid h) e3
  refine ⟨⟨i, n, ofF f, a, len, cap, dgs len E⟩, ?_, ⟨dgs_len len E, k1, k2, k3, sld_of_sln k4⟩⟩
  apply List.ext_getElem?
  intro j
  rw [show (RowE.cells ⟨i, n, ofF f, a, len, cap, dgs len E⟩).toList[j]? = (RowE.cells ⟨i, n, ofF f, a, len, cap, dgs len E⟩)[j]? from Array.getElem?_toList, rowE_get]
  simp only
  by_cases h0 : j = 0
  · subst h0
    have := congrArg (·[0]?) hi
    simp [List.getElem?_take, List.getElem?_drop] at this
    rw [if_pos rfl, this]
  · by_cases h1 : j = 1
    · subst h1
      have := congrArg (·[0]?) hn
      simp [List.getElem?_take, List.getElem?_drop] at this
      rw [if_neg h0, if_pos rfl, this]
    · by_cases h2 : j < 34
      · have := congrArg (·[j - 2]?) hf
        simp only [List.getElem?_take, List.getElem?_drop, show j - 2 < 32 by omega, if_true, show 2 + (j - 2) = j by omega, Array.getElem?_toList, rowB_get] at this
        rw [if_neg h0, if_neg h1, if_pos h2, this, dF_ofF _ _ (by omega)]
      · by_cases h3 : j = 34
        · subst h3
          have := congrArg (·[0]?) hv
          simp [List.getElem?_take, List.getElem?_drop] at this
          rw [if_neg h0, if_neg h1, if_neg h2, if_pos rfl, this]
        · rw [if_neg h0, if_neg h1, if_neg h2, if_neg h3, List.getElem?_eq_none (by omega)]
theorem rowsE_open {H : Type} {enc : TypeId × Value → H} {w : World} {base : Nat} {sp : Nat → Bool} {held : Bool} {fuel : Nat} {cs : List Value} {x : DataW H × List MemPlace}
    (h : DataW.trod enc Tryd.prog w base sp held fuel 41 cs = some x) :
    ∃ (a : Option Addr) (len cap : Nat) (E : Nat → RowE), cs = [.slice a len cap] ∧ len ≤ cap ∧ cap ≤ maxLen ∧ (a = none → cap = 0) ∧ SlN w a len 35 (fun i => (E i).cells) ∧ ∀ i, i < len → (E i).ok w := by
  obtain ⟨a, len, cap, rfl, h1, h2, h3, h4⟩ := slice_open Tryd.underlying41 crow (by decide) h
  rcases h4 with rfl | ⟨g, off, rfl, hg, hi⟩
  · exact ⟨a, 0, cap, fun _ => default, rfl, h1, h2, h3, ⟨Or.inl rfl⟩, fun i hi => by omega⟩
  · have hx : ∀ i, ∃ b : RowE, i < len → cellsN w g (off + i * 35) 35 = some b.cells ∧ b.ok w := by
      intro i
      by_cases hil : i < len
      · obtain ⟨ecs, f', y, hc, hy⟩ := hi i hil
        obtain ⟨b, hbe, hb⟩ := rowE_of_trod hy
        rw [hbe] at hc
        clear hbe
        refine ⟨b, fun _ => ⟨cellsN_some.2 ⟨rowE_size b, fun j hj => ?_⟩, hb⟩⟩
        obtain ⟨v, hv1, hv2⟩ := hc j hj
        rw [Nat.add_assoc, hv2, ← hv1, Array.getElem?_toList]
      · exact ⟨default, fun h => absurd h hil⟩
    obtain ⟨E, hE⟩ := Classical.skolem.1 hx
    exact ⟨_, len, cap, E, rfl, h1, h2, h3, ⟨Or.inr ⟨g, off, rfl, hg, fun i hi => (hE i hi).1⟩⟩, fun i hi => (hE i hi).2⟩
/-- What a copy of a row holds, from any later world. -/
theorem rowE_at {u A : World} {e : RowE} {t : TypeId} (k : Ex (u.alloc (.cells e.cells t)) A) {b : Nat} (hb : u.heap.size = b) :
    A.cell? ⟨b, 0, none⟩ = some (I e.i) ∧ A.cell? ⟨b, 1, none⟩ = some (I e.n) ∧ A.cell? ⟨b, 34, none⟩ = some (.slice e.a e.len e.cap) ∧ cellsN A b 2 32 = some (rowB 32 (dF e.d)) ∧ b < A.heap.size := by
  subst hb
  have h := ex_block k (heap_alloc_new u _)
  have hc : ∀ j, A.cell? ⟨u.heap.size, j, none⟩ = e.cells[j]? := fun j => cell_of_row _ _ j _ _ _ h
  refine ⟨by rw [hc, rowE_get]; rfl, by rw [hc, rowE_get]; rfl, by rw [hc, rowE_get]; rfl, cellsN_some.2 ⟨rowB_size _ _, fun j hj => ?_⟩, (Array.getElem?_eq_some_iff.1 h).1⟩
  rw [hc, rowE_get, rowB_get, if_neg (by omega), if_neg (by omega), if_pos (by omega), if_pos hj, Nat.add_sub_cancel_left]
theorem cellsN_ex' {w w' : World} {b o n : Nat} {cs : Array Value} (h : cellsN w b o n = some cs) (hb : b < w.heap.size) (k : Ex w w') : cellsN w' b o n = some cs := by
  obtain ⟨X, rfl⟩ := k
  rw [cellsN_congr fun j _ => wx_cell w X _ hb, h]
theorem RowE.ok.ex {e : RowE} {w w' : World} (h : e.ok w) (k : Ex w w') : e.ok w' := ⟨h.hl, h.hc, h.hm, h.hn, h.hs.ex k⟩
theorem SlN.exN {w w' : World} {a : Option Addr} {n m : Nat} {E : Nat → Array Value} (h : SlN w a n m E) (k : Ex w w') : SlN w' a n m E := by
  rcases h.out with h | ⟨g, off, h1, h2, h3⟩
  · exact ⟨Or.inl h⟩
  · exact ⟨Or.inr ⟨g, off, h1, Nat.lt_of_lt_of_le h2 (ex_size k), fun i hi => cellsN_ex' (h3 i hi) h2 k⟩⟩
end Go.Proofs.YtbobamifpjlmiaaDoor
