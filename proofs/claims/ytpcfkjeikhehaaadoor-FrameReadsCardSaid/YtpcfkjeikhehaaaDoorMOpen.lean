import Derived.Test.YtpcfkjeikhehaaaDoorMEq
import Derived.Test.YtpcfkjeikhehaaaDoorMSl
import Derived.ProofKit
import Derived.OpenShut
import Derived.Deep.DeepHandedRow
import Derived.Lib.LaidTab
import Derived.Carry
import Derived.OpenVars
import Derived.Test.YtpcfkjeikhehaaaDoorMFrO
import Derived.Test.YtpcfkjeikhehaaaDoorRows
import Derived.Test.YtpcfkjeikhehaaaDoorCards
import Derived.Test.YtpcfkjeikhehaaaDoorTie

/- How a row's data are opened; what is left behind. Over whatever program. -/
set_option linter.unusedSimpArgs false
set_option linter.unusedVariables false
set_option maxRecDepth 20000
namespace Go.Proofs.YtpcfkjeikhehaaaDoor
open Go.RowKit Go.ChangeShapes Go.WideShapes Go.ChangeAt
section
variable {H : Type} {enc : TypeId × Value → H} {P : Program} {w : World} {base : Nat} {sp : Nat → Bool} {held : Bool}
/-- An integer of a list of cells. -/
def numAt (cs : List Value) (i : Nat) : Int := match cs[i]? with | some (.int _ z) => z | _ => 0
theorem arr_of_trod {t e : TypeId} {n fuel : Nat} {k : IntKind} {cs : List Value} {x : DataW H × List MemPlace} (ht : P.underlying t = some (.array n e)) (he : P.underlying e = some (.int k)) (hce : P.cellsOf e = 1) (hct : P.cellsOf t = n)
    (h : DataW.trod enc P w base sp held fuel t cs = some x) : cs.length = n ∧ ∀ i, i < n → cs[i]? = some (.int k (numAt cs i)) ∧ (Lit.int k (numAt cs i)).wf = true := by
  obtain ⟨xs, m, _, _, hl, hxl, hel⟩ := DataW.trod_array ht h
  rw [hct] at hl
  refine ⟨hl, fun i hi => ?_⟩
  have h1 := hel i hi
  rw [hce, Nat.mul_one] at h1
  rw [List.getElem?_eq_getElem (by omega)] at h1
  obtain ⟨z, hz, _, hw⟩ := DataW.trod_int he h1
  have h2 : cs[i]? = some (.int k z) := by
    have := congrArg (·[0]?) hz
    simpa [List.getElem?_take, List.getElem?_drop] using this
  have h3 : numAt cs i = z := by unfold numAt; rw [h2]
  rw [h3]; exact ⟨h2, hw⟩
theorem arrB_of_trod {t e : TypeId} {n fuel : Nat} {cs : List Value} {x : DataW H × List MemPlace} (ht : P.underlying t = some (.array n e)) (he : P.underlying e = some (.int .u8)) (hce : P.cellsOf e = 1) (hct : P.cellsOf t = n)
    (h : DataW.trod enc P w base sp held fuel t cs = some x) : ∃ f : Nat → UInt8, cs = (rowB n f).toList := by
  obtain ⟨hl, hc⟩ := arr_of_trod ht he hce hct h
  refine ⟨fun i => UInt8.ofNat (numAt cs i).toNat, List.ext_getElem? fun i => ?_⟩
  have e := rowB_get n (fun i => UInt8.ofNat (numAt cs i).toNat) i
  rw [← Array.getElem?_toList] at e
  rw [e]
  by_cases hi : i < n
  · obtain ⟨h1, h2⟩ := hc i hi
    rw [if_pos hi, h1]
    simp only [Lit.wf, Bool.and_eq_true, decide_eq_true_eq] at h2
    have h3 : 0 ≤ numAt cs i ∧ numAt cs i < 256 := by simp [IntKind.min, IntKind.max, IntKind.bits, IntKind.signed] at h2; omega
    show some (Value.int IntKind.u8 (numAt cs i)) = some (Value.int IntKind.u8 ((UInt8.ofNat (numAt cs i).toNat).toNat : Int))
    rw [UInt8.toNat_ofNat_of_lt' (by show _ < 256; omega), Int.toNat_of_nonneg h3.1]
  · rw [if_neg hi, List.getElem?_eq_none (by omega)]
theorem arrU_of_trod {t e : TypeId} {n fuel : Nat} {cs : List Value} {x : DataW H × List MemPlace} (ht : P.underlying t = some (.array n e)) (he : P.underlying e = some (.int .u32)) (hce : P.cellsOf e = 1) (hct : P.cellsOf t = n)
    (h : DataW.trod enc P w base sp held fuel t cs = some x) : ∃ f : Nat → UInt32, cs = (rowU n f).toList := by
  obtain ⟨hl, hc⟩ := arr_of_trod ht he hce hct h
  refine ⟨fun i => UInt32.ofNat (numAt cs i).toNat, List.ext_getElem? fun i => ?_⟩
  have e := rowU_get n (fun i => UInt32.ofNat (numAt cs i).toNat) i
  rw [← Array.getElem?_toList] at e
  rw [e]
  by_cases hi : i < n
  · obtain ⟨h1, h2⟩ := hc i hi
    rw [if_pos hi, h1]
    simp only [Lit.wf, Bool.and_eq_true, decide_eq_true_eq] at h2
    have h3 : 0 ≤ numAt cs i ∧ numAt cs i < 4294967296 := by simp [IntKind.min, IntKind.max, IntKind.bits, IntKind.signed] at h2; omega
    show some (Value.int IntKind.u32 (numAt cs i)) = some (Value.int IntKind.u32 ((UInt32.ofNat (numAt cs i).toNat).toNat : Int))
    rw [UInt32.toNat_ofNat_of_lt' (by show _ < 4294967296; omega), Int.toNat_of_nonneg h3.1]
  · rw [if_neg hi, List.getElem?_eq_none (by omega)]
theorem agg_of_ok {t e : TypeId} {n b0 : Nat} {r : Reach} {v : Value} (ht : P.underlying t = some (.array n e)) (h : Value.okWide P w r b0 t v) : ∃ cs, v = .agg cs := by
  simp only [Value.okWide, ht] at h
  obtain ⟨cs, h1, _⟩ := h
  exact ⟨cs, h1⟩
theorem argB {t e : TypeId} {n b0 : Nat} {r : Reach} {v : Value} {d : DataW H} {p : List MemPlace} (ht : P.underlying t = some (.array n e)) (he : P.underlying e = some (.int .u8)) (hce : P.cellsOf e = 1) (hct : P.cellsOf t = n)
    (h : Value.okWide P w r b0 t v) (hd : DataW.Trod enc P w base sp held t v d p) : ∃ f : Nat → UInt8, v = .agg (rowB n f) := by
  obtain ⟨cs, rfl⟩ := agg_of_ok ht h
  obtain ⟨fuel, hf⟩ := hd
  obtain ⟨f, hf⟩ := arrB_of_trod ht he hce hct hf
  exact ⟨f, by rw [show cs = rowB n f from by simpa [Value.cells] using congrArg List.toArray hf]⟩
theorem argU {t e : TypeId} {n b0 : Nat} {r : Reach} {v : Value} {d : DataW H} {p : List MemPlace} (ht : P.underlying t = some (.array n e)) (he : P.underlying e = some (.int .u32)) (hce : P.cellsOf e = 1) (hct : P.cellsOf t = n)
    (h : Value.okWide P w r b0 t v) (hd : DataW.Trod enc P w base sp held t v d p) : ∃ f : Nat → UInt32, v = .agg (rowU n f) := by
  obtain ⟨cs, rfl⟩ := agg_of_ok ht h
  obtain ⟨fuel, hf⟩ := hd
  obtain ⟨f, hf⟩ := arrU_of_trod ht he hce hct hf
  exact ⟨f, by rw [show cs = rowU n f from by simpa [Value.cells] using congrArg List.toArray hf]⟩
theorem arg64 {t : TypeId} {b0 : Nat} {r : Reach} {v : Value} {d : DataW H} {p : List MemPlace} (ht : P.underlying t = some (.int .u64)) (h : Value.okWide P w r b0 t v) (hd : DataW.Trod enc P w base sp held t v d p) : ∃ x : UInt64, v = L x := by
  obtain ⟨n, rfl, _, _, hw⟩ := open_int ht h hd
  simp only [Lit.wf, Bool.and_eq_true, decide_eq_true_eq] at hw
  have h3 : 0 ≤ n ∧ n < 18446744073709551616 := by simp [IntKind.min, IntKind.max, IntKind.bits, IntKind.signed] at hw; omega
  obtain ⟨x, hx⟩ := ln_of n h3
  exact ⟨x, by rw [hx]⟩
theorem arg32 {t : TypeId} {b0 : Nat} {r : Reach} {v : Value} {d : DataW H} {p : List MemPlace} (ht : P.underlying t = some (.int .u32)) (h : Value.okWide P w r b0 t v) (hd : DataW.Trod enc P w base sp held t v d p) : ∃ x : UInt32, v = U x := by
  obtain ⟨n, rfl, _, _, hw⟩ := open_int ht h hd
  simp only [Lit.wf, Bool.and_eq_true, decide_eq_true_eq] at hw
  have h3 : 0 ≤ n ∧ n < 4294967296 := by simp [IntKind.min, IntKind.max, IntKind.bits, IntKind.signed] at hw; omega
  obtain ⟨x, hx⟩ := un_of n h3
  exact ⟨x, by rw [hx]⟩
/-- **What a law leaves behind**: it was called, it said yes, nothing that was there has turned. -/
theorem law_post {f : Func} {s : ChangeSpec} {W W' : World} {args : Array Value} {b : TypeId} {ds gs : List (DataW H)} {before : List MemPlace} (hl : laidOutB P = true)
    (hr : ∀ t ∈ f.params.toList, P.readableRec t = true ∧ t < P.types.size) (hf : f.resultTypes = #[b]) (hb : P.underlying b = some .bool)
    (hs : s.fn H (ds ++ gs) = { results := [.lit (.bool true)], args := ds }) (hv : s.vars = [])
    (hW : DataW.Whole enc P f.params.toList s.vars false W args.toList ds gs before) (hbe : Below W.heap.size W W') : s.post enc P f false true false false W args (.bool true) W' := by
  have hlt := hW.lt
  have hW0 := hW
  obtain ⟨p, q, hA, hV, hpq, _, _⟩ := hW
  rw [hv] at hV
  obtain ⟨rfl, rfl⟩ := trodVars_none hV
  refine ⟨ds, [], before, [], p, [], hW0, ?_, ?_, ?_, hbe.frame _, fun h => by cases h⟩
  · rw [hs, hf]
    exact trodAll_cons_mk (shut_bool hb _) trodAll_mk0
  · rw [hs]
    have hpl : ∀ x ∈ p, x.block < W.heap.size := fun x hx => hlt x (by rw [hpq]; simp [hx])
    clear hW0 hlt hpq hs hV
    have : ∀ (ts : List TypeId) (vs : List Value) (ds : List (DataW H)) (p : List MemPlace), (∀ t ∈ ts, P.readableRec t = true ∧ t < P.types.size) → (∀ x ∈ p, x.block < W.heap.size) →
        DataW.TrodAll enc P W 0 (fun _ => true) true ts vs ds p → DataW.TrodAll enc P W' 0 (fun b => decide (b < W.heap.size)) true ts vs ds p := by
      intro ts
      induction ts with
      | nil => intro vs ds p _ _ h; cases vs <;> cases ds <;> exact h
      | cons t ts ih =>
        intro vs ds p hr hp h
        cases vs with
        | nil => cases ds <;> exact h.elim
        | cons v vs =>
          cases ds with
          | nil => exact h.elim
          | cons d ds =>
            obtain ⟨p1, p2, h1, h2, rfl⟩ := h
            have ht := hr t List.mem_cons_self
            exact ⟨p1, p2, Below.trod hl ht.1 ht.2 h1 hbe (fun x hx => hp x (List.mem_append_left _ hx)), ih vs ds p2 (fun t h => hr t (List.mem_cons_of_mem _ h)) (fun x hx => hp x (List.mem_append_right _ hx)) h2, rfl⟩
    exact this _ _ _ _ hr hpl hA
  · rw [hs, hv]; exact rfl
/-- A variable of rows of numbers. -/
theorem nest_of_tab {t e1 e : TypeId} {n m fuel : Nat} {k : IntKind} {cs : List Value} {rows : List (List Int)} {p : List MemPlace} (ht : P.underlying t = some (.array n e1)) (h1 : P.underlying e1 = some (.array m e)) (he : P.underlying e = some (.int k)) (hce : P.cellsOf e = 1) (hc1 : P.cellsOf e1 = m)
    (h : DataW.trod enc P w base sp held fuel t cs = some (.agg (rows.map (Lib.tabData k)), p)) : ∀ i r, i < n → r < m → cs[i * m + r]? = ((rows[i]?).bind (·[r]?)).map (Value.int k) := by
  obtain ⟨xs, q, _, hx, hl, hxl, hel⟩ := DataW.trod_array ht h
  intro i r hi hr
  have hx1 : xs.map (·.1) = rows.map (Lib.tabData k) := by
    have := congrArg Prod.fst hx
    simpa using this.symm
  have h2 := hel i hi
  rw [hc1, List.getElem?_eq_getElem (by omega)] at h2
  have h3 : (rows.map (Lib.tabData (H := H) k))[i]? = some (xs[i]'(by omega)).1 := by rw [← hx1]; simp [hxl, hi]
  rw [List.getElem?_map] at h3
  cases hrow : rows[i]? with
  | none => rw [hrow] at h3; cases h3
  | some row =>
    rw [hrow] at h3
    simp only [Option.map_some, Option.some.injEq] at h3
    have h4 : xs[i]'(by omega) = (Lib.tabData k row, (xs[i]'(by omega)).2) := by rw [h3]
    rw [h4] at h2
    have h5 := Lib.cells_of_tab h1 he hce hc1 h2
    have h6 := congrArg (·[r]?) h5
    simp only [List.getElem?_take, List.getElem?_drop, hr, if_true, List.getElem?_map] at h6
    rw [h6]; rfl
/-- A slice's elements, each with its cells. -/
theorem slice_open {t e : TypeId} {m fuel : Nat} {cs : List Value} {x : DataW H × List MemPlace} (ht : P.underlying t = some (.slice e)) (hce : P.cellsOf e = m) (hm : 0 < m) (h : DataW.trod enc P w base sp held fuel t cs = some x) :
    ∃ a len cap, cs = [.slice a len cap] ∧ len ≤ cap ∧ cap ≤ maxLen ∧ (a = none → cap = 0) ∧ (len = 0 ∨ ∃ g off, a = some ⟨g, off, none⟩ ∧ g < w.heap.size ∧ ∀ i, i < len →
      ∃ (ecs : List Value) (fuel' : Nat) (y : DataW H × List MemPlace), (∀ j, j < m → ∃ v, ecs[j]? = some v ∧ w.cell? ⟨g, off + (i * m + j), none⟩ = some v) ∧ DataW.trod enc P w base sp held fuel' e ecs = some y) := by
  rcases DataW.trod_slice ht h with ⟨rfl, _⟩ | ⟨a, len, cap, elems, rest, n, _, rfl, _, _, hl, hcm, hlen, hel, _, _⟩
  · exact ⟨none, 0, 0, rfl, by omega, by unfold maxLen; omega, fun _ => rfl, Or.inl rfl⟩
  · refine ⟨some a, len, cap, rfl, hl, hcm, fun h => (by cases h), ?_⟩
    rcases Nat.eq_zero_or_pos len with h0 | hpos
    · exact Or.inl h0
    · right
      have each : ∀ i, i < len → ∃ (ecs : List Value) (y : DataW H × List MemPlace), (∀ j, j < m → ∃ v, ecs[j]? = some v ∧ w.cell? ((a.add (i * m)).add j) = some v) ∧ DataW.trod enc P w base sp held n e ecs = some y := by
        intro i hi
        have h1 := hel i hi
        rw [hce, List.getElem?_eq_getElem (by omega), Option.bind_eq_some_iff] at h1
        obtain ⟨ecs, hc, hy⟩ := h1
        refine ⟨ecs, _, fun j hj => ?_, hy⟩
        unfold World.cells? at hc
        split at hc
        · exact Lib.mapM_at hc j j (by simp [hj])
        · cases hc
      have hsp : a.spot = none := by
        obtain ⟨ecs, y, hc, _⟩ := each 0 hpos
        obtain ⟨v, _, hv⟩ := hc 0 hm
        have e : (a.add (0 * m)).add 0 = a := by simp [Addr.add]
        rw [e] at hv
        exact World.cell?_spot hv
      obtain ⟨g, off, spot⟩ := a
      simp only at hsp
      subst hsp
      have hadd : ∀ i j, ((⟨g, off, none⟩ : Addr).add (i * m)).add j = ⟨g, off + (i * m + j), none⟩ := by
        intro i j
        unfold Addr.add
        by_cases h1 : i * m = 0
        · by_cases h2 : j = 0
          · simp [h1, h2]
          · simp [h1, h2]
        · by_cases h2 : j = 0
          · simp [h1, h2]
          · simp [h1, h2, Nat.add_assoc]
      refine ⟨g, off, rfl, ?_, fun i hi => ?_⟩
      · obtain ⟨ecs, y, hc, _⟩ := each 0 hpos
        obtain ⟨v, _, hv⟩ := hc 0 hm
        rw [hadd] at hv
        exact World.block_lt_of_cell? _ _ hv
      · obtain ⟨ecs, y, hc, hy⟩ := each i hi
        exact ⟨ecs, n, y, fun j hj => by obtain ⟨v, h1, h2⟩ := hc j hj; exact ⟨v, h1, by rw [← hadd]; exact h2⟩, hy⟩
theorem slB_open {t e : TypeId} {fuel : Nat} {cs : List Value} {x : DataW H × List MemPlace} (ht : P.underlying t = some (.slice e)) (he : P.underlying e = some (.int .u8)) (hce : P.cellsOf e = 1) (h : DataW.trod enc P w base sp held fuel t cs = some x) :
    ∃ a len cap f, cs = [.slice a len cap] ∧ len ≤ cap ∧ cap ≤ maxLen ∧ (a = none → cap = 0) ∧ SlB w a len f := by
  obtain ⟨a, len, cap, rfl, h1, h2, h3, h4⟩ := slice_open ht hce (by decide) h
  rcases h4 with rfl | ⟨g, off, rfl, hg, hi⟩
  · exact ⟨a, 0, cap, fun _ => 0, rfl, h1, h2, h3, SlB.zero _ _ _⟩
  · have hx : ∀ i, ∃ b : UInt8, i < len → w.cell? ⟨g, off + i, none⟩ = some (B b) := by
      intro i
      by_cases hil : i < len
      · obtain ⟨ecs, f', y, hc, hy⟩ := hi i hil
        obtain ⟨z, rfl, _, hw⟩ := DataW.trod_int he hy
        obtain ⟨v, hv1, hv2⟩ := hc 0 (by decide)
        simp at hv1
        subst hv1
        simp only [Lit.wf, Bool.and_eq_true, decide_eq_true_eq] at hw
        have h3 : 0 ≤ z ∧ z < 256 := by simp [IntKind.min, IntKind.max, IntKind.bits, IntKind.signed] at hw; omega
        obtain ⟨b, hb⟩ := bn_of z h3
        refine ⟨b, fun _ => ?_⟩
        rw [show off + i = off + (i * 1 + 0) by omega, hv2, hb]
      · exact ⟨0, fun h => absurd h hil⟩
    obtain ⟨f, hf⟩ := Classical.skolem.1 hx
    exact ⟨_, len, cap, f, rfl, h1, h2, h3, SlB.mk' hg hf⟩
/-- A slice of bytes that lies in memory. -/
structure SlE where
  a : Option Addr
  n : Nat
  c : Nat
  f : Nat → UInt8
def SlE.v (e : SlE) : Value := .slice e.a e.n e.c
structure SlE.ok (e : SlE) (w : World) : Prop where
  nc : e.n ≤ e.c
  cm : e.c ≤ maxLen
  nil : e.a = none → e.c = 0
  at' : SlB w e.a e.n e.f
theorem SlE.ok.ex {e : SlE} {w w' : World} (h : e.ok w) (k : Ex w w') : e.ok w' := ⟨h.nc, h.cm, h.nil, h.at'.ex k⟩
/-- A slice of one-cell elements. -/
structure SlV (w : World) (a : Option Addr) (n : Nat) (E : Nat → Value) : Prop where
  out : n = 0 ∨ ∃ g off, a = some ⟨g, off, none⟩ ∧ g < w.heap.size ∧ ∀ i, i < n → w.cell? ⟨g, off + i, none⟩ = some (E i)
theorem SlV.pos {w : World} {a : Option Addr} {n : Nat} {E : Nat → Value} (h : SlV w a n E) (hn : 0 < n) : ∃ g off, a = some ⟨g, off, none⟩ ∧ g < w.heap.size ∧ ∀ i, i < n → w.cell? ⟨g, off + i, none⟩ = some (E i) := by
  rcases h.out with h | h
  · omega
  · exact h
theorem rows_open {t q e : TypeId} {fuel : Nat} {cs : List Value} {x : DataW H × List MemPlace} (ht : P.underlying t = some (.slice q)) (hq : P.underlying q = some (.slice e)) (he : P.underlying e = some (.int .u8)) (hcq : P.cellsOf q = 1) (hce : P.cellsOf e = 1) (h : DataW.trod enc P w base sp held fuel t cs = some x) :
    ∃ (a : Option Addr) (len cap : Nat) (E : Nat → SlE), cs = [.slice a len cap] ∧ len ≤ cap ∧ cap ≤ maxLen ∧ (a = none → cap = 0) ∧ SlV w a len (fun i => SlE.v (E i)) ∧ ∀ i, i < len → (E i).ok w := by
  obtain ⟨a, len, cap, rfl, h1, h2, h3, h4⟩ := slice_open ht hcq (by decide) h
  rcases h4 with rfl | ⟨g, off, rfl, hg, hi⟩
  · exact ⟨a, 0, cap, fun _ => ⟨none, 0, 0, fun _ => 0⟩, rfl, h1, h2, h3, ⟨Or.inl rfl⟩, fun i hi => by omega⟩
  · have hx : ∀ i, ∃ b : SlE, i < len → w.cell? ⟨g, off + i, none⟩ = some b.v ∧ b.ok w := by
      intro i
      by_cases hil : i < len
      · obtain ⟨ecs, f', y, hc, hy⟩ := hi i hil
        obtain ⟨a', n', c', f, rfl, k1, k2, k3, k4⟩ := slB_open hq he hce hy
        obtain ⟨v, hv1, hv2⟩ := hc 0 (by decide)
        simp at hv1
        subst hv1
        refine ⟨⟨a', n', c', f⟩, fun _ => ⟨?_, k1, k2, k3, k4⟩⟩
        rw [show off + i = off + (i * 1 + 0) by omega, hv2]; rfl
      · exact ⟨⟨none, 0, 0, fun _ => 0⟩, fun h => absurd h hil⟩
    obtain ⟨E, hE⟩ := Classical.skolem.1 hx
    exact ⟨_, len, cap, E, rfl, h1, h2, h3, ⟨Or.inr ⟨g, off, rfl, hg, fun i hi => (hE i hi).1⟩⟩, fun i hi => (hE i hi).2⟩
theorem strs_open {t q : TypeId} {fuel : Nat} {cs : List Value} {x : DataW H × List MemPlace} (ht : P.underlying t = some (.slice q)) (hq : P.underlying q = some .string) (hcq : P.cellsOf q = 1) (h : DataW.trod enc P w base sp held fuel t cs = some x) :
    ∃ (a : Option Addr) (len cap : Nat) (E : Nat → ByteArray), cs = [.slice a len cap] ∧ len ≤ cap ∧ cap ≤ maxLen ∧ (a = none → cap = 0) ∧ SlV w a len (fun i => .string (E i)) ∧ ∀ i, i < len → (E i).size ≤ maxLen := by
  obtain ⟨a, len, cap, rfl, h1, h2, h3, h4⟩ := slice_open ht hcq (by decide) h
  rcases h4 with rfl | ⟨g, off, rfl, hg, hi⟩
  · exact ⟨a, 0, cap, fun _ => ⟨#[]⟩, rfl, h1, h2, h3, ⟨Or.inl rfl⟩, fun i hi => by omega⟩
  · have hx : ∀ i, ∃ b : ByteArray, i < len → w.cell? ⟨g, off + i, none⟩ = some (.string b) ∧ b.size ≤ maxLen := by
      intro i
      by_cases hil : i < len
      · obtain ⟨ecs, f', y, hc, hy⟩ := hi i hil
        obtain ⟨s, rfl, _, hs⟩ := DataW.trod_string hq hy
        obtain ⟨v, hv1, hv2⟩ := hc 0 (by decide)
        simp at hv1
        subst hv1
        refine ⟨s, fun _ => ⟨?_, hs⟩⟩
        rw [show off + i = off + (i * 1 + 0) by omega, hv2]
      · exact ⟨⟨#[]⟩, fun h => absurd h hil⟩
    obtain ⟨E, hE⟩ := Classical.skolem.1 hx
    exact ⟨_, len, cap, E, rfl, h1, h2, h3, ⟨Or.inr ⟨g, off, rfl, hg, fun i hi => (hE i hi).1⟩⟩, fun i hi => (hE i hi).2⟩
/-- A slice of elements of m cells. -/
structure SlN (w : World) (a : Option Addr) (n m : Nat) (E : Nat → Array Value) : Prop where
  out : n = 0 ∨ ∃ g off, a = some ⟨g, off, none⟩ ∧ g < w.heap.size ∧ ∀ i, i < n → cellsN w g (off + i * m) m = some (E i)
theorem SlN.pos {w : World} {a : Option Addr} {n m : Nat} {E : Nat → Array Value} (h : SlN w a n m E) (hn : 0 < n) : ∃ g off, a = some ⟨g, off, none⟩ ∧ g < w.heap.size ∧ ∀ i, i < n → cellsN w g (off + i * m) m = some (E i) := by
  rcases h.out with h | h
  · omega
  · exact h
theorem elems_open {α : Type} [Inhabited α] {t q : TypeId} {m fuel : Nat} {cs : List Value} {x : DataW H × List MemPlace} (K : α → Array Value) (hK : ∀ a, (K a).size = m) (ht : P.underlying t = some (.slice q)) (hcq : P.cellsOf q = m) (hm : 0 < m)
    (hq : ∀ (fuel : Nat) (ecs : List Value) (y : DataW H × List MemPlace), DataW.trod enc P w base sp held fuel q ecs = some y → ∃ a : α, ecs = (K a).toList) (h : DataW.trod enc P w base sp held fuel t cs = some x) :
    ∃ (a : Option Addr) (len cap : Nat) (E : Nat → α), cs = [.slice a len cap] ∧ len ≤ cap ∧ cap ≤ maxLen ∧ (a = none → cap = 0) ∧ SlN w a len m (fun i => K (E i)) := by
  obtain ⟨a, len, cap, rfl, h1, h2, h3, h4⟩ := slice_open ht hcq hm h
  rcases h4 with rfl | ⟨g, off, rfl, hg, hi⟩
  · exact ⟨a, 0, cap, fun _ => default, rfl, h1, h2, h3, ⟨Or.inl rfl⟩⟩
  · have hx : ∀ i, ∃ b : α, i < len → cellsN w g (off + i * m) m = some (K b) := by
      intro i
      by_cases hil : i < len
      · obtain ⟨ecs, f', y, hc, hy⟩ := hi i hil
        obtain ⟨b, rfl⟩ := hq _ _ _ hy
        refine ⟨b, fun _ => cellsN_some.2 ⟨hK b, fun j hj => ?_⟩⟩
        obtain ⟨v, hv1, hv2⟩ := hc j hj
        rw [Nat.add_assoc, hv2, ← hv1, Array.getElem?_toList]
      · exact ⟨default, fun h => absurd h hil⟩
    obtain ⟨E, hE⟩ := Classical.skolem.1 hx
    exact ⟨_, len, cap, E, rfl, h1, h2, h3, ⟨Or.inr ⟨g, off, rfl, hg, hE⟩⟩⟩
/-- A parameter that is a slice. -/
theorem arg_slice {t e : TypeId} {b0 : Nat} {r : Reach} {v : Value} {d : DataW H} {p : List MemPlace} (ht : P.underlying t = some (.slice e)) (h : Value.okWide P w r b0 t v) (hd : DataW.Trod enc P w base sp held t v d p) : ∃ (fuel : Nat) (x : DataW H × List MemPlace), DataW.trod enc P w base sp held fuel t [v] = some x := by
  obtain ⟨a, l, c, rfl⟩ := okWide_slice ht h
  obtain ⟨fuel, hf⟩ := hd
  exact ⟨fuel, _, hf⟩
end
end Go.Proofs.YtpcfkjeikhehaaaDoor

/- What the rows' list gives: the package's variables. -/
set_option linter.unusedSimpArgs false
set_option linter.unusedVariables false
set_option maxRecDepth 20000
namespace Go.Proofs.YtpcfkjeikhehaaaDoor
open Go.RowKit Go.ChangeShapes Go.WideShapes Go.ChangeAt
theorem ownK : ownKnob Tryd.prog.godebug = none := by kernel_rfl
theorem laidOutK : laidOutB Tryd.prog = true := by kernel_rfl
theorem gs : Tryd.prog.globalNamed "tallyhouse/blake.start" = some 0 := by kernel_rfl
theorem go : Tryd.prog.globalNamed "tallyhouse/blake.orders" = some 2 := by kernel_rfl
theorem gf : Tryd.prog.globalNamed "tallyhouse/blake.fours" = some 3 := by kernel_rfl
theorem ts : (Tryd.prog.globals[0]?).map (·.type) = some 99 := by kernel_rfl
theorem to : (Tryd.prog.globals[2]?).map (·.type) = some 131 := by kernel_rfl
theorem tf : (Tryd.prog.globals[3]?).map (·.type) = some 133 := by kernel_rfl
theorem c8u : Tryd.prog.cellsOf 99 = 8 := by kernel_rfl
theorem cu : Tryd.prog.cellsOf 98 = 1 := by kernel_rfl
theorem ci : Tryd.prog.cellsOf 3 = 1 := by kernel_rfl
theorem cb : Tryd.prog.cellsOf 5 = 1 := by kernel_rfl
theorem c16 : Tryd.prog.cellsOf 130 = 16 := by kernel_rfl
theorem c4 : Tryd.prog.cellsOf 132 = 4 := by kernel_rfl
theorem c1016 : Tryd.prog.cellsOf 131 = 160 := by kernel_rfl
theorem c84 : Tryd.prog.cellsOf 133 = 32 := by kernel_rfl
theorem c64b : Tryd.prog.cellsOf 101 = 64 := by kernel_rfl
theorem cid : Tryd.prog.cellsOf 75 = 32 := by kernel_rfl
theorem c4u : Tryd.prog.cellsOf 134 = 4 := by kernel_rfl
def startL : List Int := [1779033703, 3144134277, 1013904242, 2773480762, 1359893119, 2600822924, 528734635, 1541459225]
def ordersL : List (List Int) := (List.range 10).map fun i => (List.range 16).map fun r => ordersF (i * 16 + r)
def foursL : List (List Int) := (List.range 8).map fun i => (List.range 4).map fun r => foursF (i * 4 + r)
theorem dataS {H : Type} : (Rows.laid_tallyhouse_blake_start : DataW H) = Lib.tabData .u32 startL := rfl
theorem dataO {H : Type} : (Rows.laid_tallyhouse_blake_orders : DataW H) = .agg (ordersL.map (Lib.tabData .i64)) := by kernel_rfl
theorem dataF {H : Type} : (Rows.laid_tallyhouse_blake_fours : DataW H) = .agg (foursL.map (Lib.tabData .i64)) := by kernel_rfl
theorem var_cells {W : World} {name : String} {g : Nat} {cs : Array Value} (hg : Tryd.prog.globalNamed name = some g) (h : W.var? Tryd.prog name = some cs) : g < W.heap.size ∧ ∀ i, W.cell? ⟨g, i, none⟩ = cs[i]? := by
  refine ⟨?_, fun i => World.var?_cell hg h i⟩
  simp only [World.var?, hg, Option.bind_some] at h
  rcases Nat.lt_or_ge g W.heap.size with h1 | h1
  · exact h1
  · rw [Array.getElem?_eq_none h1] at h; cases h
theorem gc : Tryd.prog.globalNamed "tallyhouse/frame.counts" = some 1 := by kernel_rfl
theorem tc : (Tryd.prog.globals[1]?).map (·.type) = some 111 := by kernel_rfl
theorem c6 : Tryd.prog.cellsOf 111 = 6 := by kernel_rfl
def countsLL : List Int := [0, 2, 1, 14, 3, 50]
theorem dataC {H : Type} : (Rows.laid_tallyhouse_frame_counts : DataW H) = Lib.tabData .i64 countsLL := rfl
theorem glob_of_laid {W : World} (h : laidMet Tryd.prog [("tallyhouse/blake.start", Rows.laid_tallyhouse_blake_start), ("tallyhouse/blake.orders", Rows.laid_tallyhouse_blake_orders), ("tallyhouse/blake.fours", Rows.laid_tallyhouse_blake_fours), ("tallyhouse/frame.counts", Rows.laid_tallyhouse_frame_counts)] W) : FGlob W := by
  obtain ⟨ps, ⟨g1, t1, cs1, f1, p1, q1, hg1, ht1, hv1, hd1, ⟨g2, t2, cs2, f2, p2, q2, hg2, ht2, hv2, hd2, ⟨g3, t3, cs3, f3, p3, q3, hg3, ht3, hv3, hd3, ⟨g4, t4, cs4, f4, p4, q4, hg4, ht4, hv4, hd4, _, _⟩, _⟩, _⟩, _⟩, _⟩ := h
  obtain rfl := Option.some.inj (gc.symm.trans hg4)
  obtain rfl := Option.some.inj (tc.symm.trans ht4)
  obtain ⟨z4, c4'⟩ := var_cells gc hv4
  rw [dataC] at hd4
  have e4 := Lib.cells_of_tab Tryd.underlying111 Tryd.underlying3 ci c6 hd4
  refine ⟨?_, cellsN_some.2 ⟨by simp, fun j hj => by rw [Nat.zero_add, c4', show cs4 = rowI 6 countsF from by apply Array.toList_inj.1; rw [e4]; rfl]⟩, z4⟩
  obtain rfl := Option.some.inj (gs.symm.trans hg1)
  obtain rfl := Option.some.inj (go.symm.trans hg2)
  obtain rfl := Option.some.inj (gf.symm.trans hg3)
  obtain rfl := Option.some.inj (ts.symm.trans ht1)
  obtain rfl := Option.some.inj (to.symm.trans ht2)
  obtain rfl := Option.some.inj (tf.symm.trans ht3)
  obtain ⟨z1, c1⟩ := var_cells gs hv1
  obtain ⟨z2, c2⟩ := var_cells go hv2
  obtain ⟨z3, c3⟩ := var_cells gf hv3
  rw [dataS] at hd1
  rw [dataO] at hd2
  rw [dataF] at hd3
  have e1 := Lib.cells_of_tab Tryd.underlying99 Tryd.underlying98 cu c8u hd1
  have e2 := nest_of_tab Tryd.underlying131 Tryd.underlying130 Tryd.underlying3 ci c16 hd2
  have e3 := nest_of_tab Tryd.underlying133 Tryd.underlying132 Tryd.underlying3 ci c4 hd3
  refine ⟨cellsN_some.2 ⟨by simp, fun j hj => ?_⟩, cellsN_some.2 ⟨by simp, fun j hj => ?_⟩, cellsN_some.2 ⟨by simp, fun j hj => ?_⟩, z1, z2, z3⟩
  · rw [Nat.zero_add, c1, show cs1 = rowU 8 startF from by
      apply Array.toList_inj.1; rw [e1]; rfl]
  · rw [Nat.zero_add, c2, rowI_get, if_pos hj]
    have h4 := e2 (j / 16) (j % 16) (by omega) (by omega)
    rw [show j / 16 * 16 + j % 16 = j by omega, Array.getElem?_toList] at h4
    rw [h4]
    have h5 : ordersL[j / 16]? = some ((List.range 16).map fun r => ordersF (j / 16 * 16 + r)) := by
      unfold ordersL; rw [List.getElem?_map, List.getElem?_range (by omega)]; rfl
    rw [h5]
    simp only [Option.bind_some, List.getElem?_map, List.getElem?_range (show j % 16 < 16 by omega), Option.map_some]
    rw [show j / 16 * 16 + j % 16 = j by omega]
  · rw [Nat.zero_add, c3, rowI_get, if_pos hj]
    have h4 := e3 (j / 4) (j % 4) (by omega) (by omega)
    rw [show j / 4 * 4 + j % 4 = j by omega, Array.getElem?_toList] at h4
    rw [h4]
    have h5 : foursL[j / 4]? = some ((List.range 4).map fun r => foursF (j / 4 * 4 + r)) := by
      unfold foursL; rw [List.getElem?_map, List.getElem?_range (by omega)]; rfl
    rw [h5]
    simp only [Option.bind_some, List.getElem?_map, List.getElem?_range (show j % 4 < 4 by omega), Option.map_some]
    rw [show j / 4 * 4 + j % 4 = j by omega]
end Go.Proofs.YtpcfkjeikhehaaaDoor

/- A start for the cards' witnesses. -/
set_option linter.unusedSimpArgs false
set_option linter.unusedVariables false
set_option maxRecDepth 20000
namespace Go.Proofs.YtpcfkjeikhehaaaDoor
open Go.RowKit Go.ChangeShapes Go.WideShapes Go.ChangeAt
/-- A block's cells anew. -/
def setBlk (w : World) (i : Nat) (cs : Array Value) : World := { w with heap := w.heap.modify i fun
      | .cells _ t frozen => .cells cs t frozen
      | o => o }
noncomputable def laidWorld (os : Os) : World :=
  setBlk (setBlk (setBlk (setBlk (World.holding Tryd.prog os ⟨#[], #[], []⟩) 0 (rowU 8 startF)) 2 (rowI 160 ordersF)) 3 (rowI 32 foursF)) 1 (rowI 6 countsF)
end Go.Proofs.YtpcfkjeikhehaaaDoor
