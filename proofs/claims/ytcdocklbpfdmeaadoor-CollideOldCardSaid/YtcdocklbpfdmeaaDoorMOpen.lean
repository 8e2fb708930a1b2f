import Derived.Test.YtcdocklbpfdmeaaDoorMEq
import Derived.Test.YtcdocklbpfdmeaaDoorMSl
import Derived.ProofKit
import Derived.OpenShut
import Derived.Deep.DeepHandedRow
import Derived.Lib.LaidTab
import Derived.Carry
import Derived.OpenVars
import Derived.Test.YtcdocklbpfdmeaaDoorMMixR
import Derived.Lib.AppendZeros

/- How a row's data are opened; what is left behind. Over whatever program. -/
set_option linter.unusedSimpArgs false
set_option linter.unusedVariables false
set_option maxRecDepth 20000
namespace Go.Proofs.YtcdocklbpfdmeaaDoor
open Go.RowKit Go.ChangeShapes Go.WideShapes Go.ChangeAt
section
variable {H : Type} {enc : TypeId × Value → H} {P : Program} {w : World} {base : Nat} {sp : Nat → Bool} {held : Bool}
/-- An integer of a list of cells. -/
def numAt (cs : List Value) (i : Nat) : Int := match cs[i]? with | some (.int _ z) => z | _ => 0
theorem arr_of_trod {t e : TypeId} {n fuel : Nat} {k : IntKind} {cs : List Value} {x : DataW H × List MemPlace} (ht : P.underlying t = some (.array n e)) (he : P.underlying e = some (.int k)) (hce : P.cellsOf e = 1) (hct : P.cellsOf t = n)
    (h : DataW.trod enc P w base sp held fuel t cs = some x) : cs.length = n ∧ ∀ i, i < n → cs[i]? = some (.int k (numAt cs i)) ∧ (Lit.int k (numAt cs i)).wf = true := by
  obtain ⟨xs, m, _, _, hl, hxl, hel⟩ := DataW.trod_array ht h
  rw [hct] at hl
  refine ⟨hl, fun i hi => ?_⟩
  have h1 := hel i hi
  rw [hce, Nat.mul_one] at h1
  rw [List.getElem?_eq_getElem (by omega)] at h1
  obtain ⟨z, hz, _, hw⟩ := DataW.trod_int he h1
  have h2 : cs[i]? = some (.int k z) := by
    have := congrArg (·[0]?) hz
    simpa [List.getElem?_take, List.getElem?_drop] using this
  have h3 : numAt cs i = z := by unfold numAt; rw [h2]
  rw [h3]; exact ⟨h2, hw⟩
theorem arrB_of_trod {t e : TypeId} {n fuel : Nat} {cs : List Value} {x : DataW H × List MemPlace} (ht : P.underlying t = some (.array n e)) (he : P.underlying e = some (.int .u8)) (hce : P.cellsOf e = 1) (hct : P.cellsOf t = n)
    (h : DataW.trod enc P w base sp held fuel t cs = some x) : ∃ f : Nat → UInt8, cs = (rowB n f).toList := by
  obtain ⟨hl, hc⟩ := arr_of_trod ht he hce hct h
  refine ⟨fun i => UInt8.ofNat (numAt cs i).toNat, List.ext_getElem? fun i => ?_⟩
  have e := rowB_get n (fun i => UInt8.ofNat (numAt cs i).toNat) i
  rw [← Array.getElem?_toList] at e
  rw [e]
  by_cases hi : i < n
  · obtain ⟨h1, h2⟩ := hc i hi
    rw [if_pos hi, h1]
    simp only [Lit.wf, Bool.and_eq_true, decide_eq_true_eq] at h2
    have h3 : 0 ≤ numAt cs i ∧ numAt cs i < 256 := by simp [IntKind.min, IntKind.max, IntKind.bits, IntKind.signed] at h2; omega
    show some (Value.int IntKind.u8 (numAt cs i)) = some (Value.int IntKind.u8 ((UInt8.ofNat (numAt cs i).toNat).toNat : Int))
    rw [UInt8.toNat_ofNat_of_lt' (by show _ < 256; omega), Int.toNat_of_nonneg h3.1]
  · rw [if_neg hi, List.getElem?_eq_none (by omega)]
theorem arrU_of_trod {t e : TypeId} {n fuel : Nat} {cs : List Value} {x : DataW H × List MemPlace} (ht : P.underlying t = some (.array n e)) (he : P.underlying e = some (.int .u32)) (hce : P.cellsOf e = 1) (hct : P.cellsOf t = n)
    (h : DataW.trod enc P w base sp held fuel t cs = some x) : ∃ f : Nat → UInt32, cs = (rowU n f).toList := by
  obtain ⟨hl, hc⟩ := arr_of_trod ht he hce hct h
  refine ⟨fun i => UInt32.ofNat (numAt cs i).toNat, List.ext_getElem? fun i => ?_⟩
  have e := rowU_get n (fun i => UInt32.ofNat (numAt cs i).toNat) i
  rw [← Array.getElem?_toList] at e
  rw [e]
  by_cases hi : i < n
  · obtain ⟨h1, h2⟩ := hc i hi
    rw [if_pos hi, h1]
    simp only [Lit.wf, Bool.and_eq_true, decide_eq_true_eq] at h2
    have h3 : 0 ≤ numAt cs i ∧ numAt cs i < 4294967296 := by simp [IntKind.min, IntKind.max, IntKind.bits, IntKind.signed] at h2; omega
    show some (Value.int IntKind.u32 (numAt cs i)) = some (Value.int IntKind.u32 ((UInt32.ofNat (numAt cs i).toNat).toNat : Int))
    rw [UInt32.toNat_ofNat_of_lt' (by show _ < 4294967296; omega), Int.toNat_of_nonneg h3.1]
  · rw [if_neg hi, List.getElem?_eq_none (by omega)]
theorem agg_of_ok {t e : TypeId} {n b0 : Nat} {r : Reach} {v : Value} (ht : P.underlying t = some (.array n e)) (h : Value.okWide P w r b0 t v) : ∃ cs, v = .agg cs := by
  simp only [Value.okWide, ht] at h
  obtain ⟨cs, h1, _⟩ := h
  exact ⟨cs, h1⟩
theorem argB {t e : TypeId} {n b0 : Nat} {r : Reach} {v : Value} {d : DataW H} {p : List MemPlace} (ht : P.underlying t = some (.array n e)) (he : P.underlying e = some (.int .u8)) (hce : P.cellsOf e = 1) (hct : P.cellsOf t = n)
    (h : Value.okWide P w r b0 t v) (hd : DataW.Trod enc P w base sp held t v d p) : ∃ f : Nat → UInt8, v = .agg (rowB n f) := by
  obtain ⟨cs, rfl⟩ := agg_of_ok ht h
  obtain ⟨fuel, hf⟩ := hd
  obtain ⟨f, hf⟩ := arrB_of_trod ht he hce hct hf
  exact ⟨f, by rw [show cs = rowB n f from by simpa [Value.cells] using congrArg List.toArray hf]⟩
theorem argU {t e : TypeId} {n b0 : Nat} {r : Reach} {v : Value} {d : DataW H} {p : List MemPlace} (ht : P.underlying t = some (.array n e)) (he : P.underlying e = some (.int .u32)) (hce : P.cellsOf e = 1) (hct : P.cellsOf t = n)
    (h : Value.okWide P w r b0 t v) (hd : DataW.Trod enc P w base sp held t v d p) : ∃ f : Nat → UInt32, v = .agg (rowU n f) := by
  obtain ⟨cs, rfl⟩ := agg_of_ok ht h
  obtain ⟨fuel, hf⟩ := hd
  obtain ⟨f, hf⟩ := arrU_of_trod ht he hce hct hf
  exact ⟨f, by rw [show cs = rowU n f from by simpa [Value.cells] using congrArg List.toArray hf]⟩
theorem arg64 {t : TypeId} {b0 : Nat} {r : Reach} {v : Value} {d : DataW H} {p : List MemPlace} (ht : P.underlying t = some (.int .u64)) (h : Value.okWide P w r b0 t v) (hd : DataW.Trod enc P w base sp held t v d p) : ∃ x : UInt64, v = L x := by
  obtain ⟨n, rfl, _, _, hw⟩ := open_int ht h hd
  simp only [Lit.wf, Bool.and_eq_true, decide_eq_true_eq] at hw
  have h3 : 0 ≤ n ∧ n < 18446744073709551616 := by simp [IntKind.min, IntKind.max, IntKind.bits, IntKind.signed] at hw; omega
  obtain ⟨x, hx⟩ := ln_of n h3
  exact ⟨x, by rw [hx]⟩
theorem arg32 {t : TypeId} {b0 : Nat} {r : Reach} {v : Value} {d : DataW H} {p : List MemPlace} (ht : P.underlying t = some (.int .u32)) (h : Value.okWide P w r b0 t v) (hd : DataW.Trod enc P w base sp held t v d p) : ∃ x : UInt32, v = U x := by
  obtain ⟨n, rfl, _, _, hw⟩ := open_int ht h hd
  simp only [Lit.wf, Bool.and_eq_true, decide_eq_true_eq] at hw
  have h3 : 0 ≤ n ∧ n < 4294967296 := by simp [IntKind.min, IntKind.max, IntKind.bits, IntKind.signed] at hw; omega
  obtain ⟨x, hx⟩ := un_of n h3
  exact ⟨x, by rw [hx]⟩
/-- **What a law leaves behind**: it was called, it said yes, nothing that was there has turned. -/
theorem law_post {f : Func} {s : ChangeSpec} {W W' : World} {args : Array Value} {b : TypeId} {ds gs : List (DataW H)} {before : List MemPlace} (hl : laidOutB P = true)
    (hr : ∀ t ∈ f.params.toList, P.readableRec t = true ∧ t < P.types.size) (hf : f.resultTypes = #[b]) (hb : P.underlying b = some .bool)
    (hs : s.fn H (ds ++ gs) = { results := [.lit (.bool true)], args := ds }) (hv : s.vars = [])
    (hW : DataW.Whole enc P f.params.toList s.vars false W args.toList ds gs before) (hbe : Below W.heap.size W W') : s.post enc P f false true false false W args (.bool true) W' := by
  have hlt := hW.lt
  have hW0 := hW
  obtain ⟨p, q, hA, hV, hpq, _, _⟩ := hW
  rw [hv] at hV
  obtain ⟨rfl, rfl⟩ := trodVars_none hV
  refine ⟨ds, [], before, [], p, [], hW0, ?_, ?_, ?_, hbe.frame _, fun h => by cases h⟩
  · rw [hs, hf]
    exact trodAll_cons_mk (shut_bool hb _) trodAll_mk0
  · rw [hs]
    have hpl : ∀ x ∈ p, x.block < W.heap.size := fun x hx => hlt x (by rw [hpq]; simp [hx])
    clear hW0 hlt hpq hs hV
    have : ∀ (ts : List TypeId) (vs : List Value) (ds : List (DataW H)) (p : List MemPlace), (∀ t ∈ ts, P.readableRec t = true ∧ t < P.types.size) → (∀ x ∈ p, x.block < W.heap.size) →
        DataW.TrodAll enc P W 0 (fun _ => true) true ts vs ds p → DataW.TrodAll enc P W' 0 (fun b => decide (b < W.heap.size)) true ts vs ds p := by
      intro ts
      induction ts with
      | nil => intro vs ds p _ _ h; cases vs <;> cases ds <;> exact h
      | cons t ts ih =>
        intro vs ds p hr hp h
        cases vs with
        | nil => cases ds <;> exact h.elim
        | cons v vs =>
          cases ds with
          | nil => exact h.elim
          | cons d ds =>
            obtain ⟨p1, p2, h1, h2, rfl⟩ := h
            have ht := hr t List.mem_cons_self
            exact ⟨p1, p2, Below.trod hl ht.1 ht.2 h1 hbe (fun x hx => hp x (List.mem_append_left _ hx)), ih vs ds p2 (fun t h => hr t (List.mem_cons_of_mem _ h)) (fun x hx => hp x (List.mem_append_right _ hx)) h2, rfl⟩
    exact this _ _ _ _ hr hpl hA
  · rw [hs, hv]; exact rfl
/-- A variable of rows of numbers. -/
theorem nest_of_tab {t e1 e : TypeId} {n m fuel : Nat} {k : IntKind} {cs : List Value} {rows : List (List Int)} {p : List MemPlace} (ht : P.underlying t = some (.array n e1)) (h1 : P.underlying e1 = some (.array m e)) (he : P.underlying e = some (.int k)) (hce : P.cellsOf e = 1) (hc1 : P.cellsOf e1 = m)
    (h : DataW.trod enc P w base sp held fuel t cs = some (.agg (rows.map (Lib.tabData k)), p)) : ∀ i r, i < n → r < m → cs[i * m + r]? = ((rows[i]?).bind (·[r]?)).map (Value.int k) := by
  obtain ⟨xs, q, _, hx, hl, hxl, hel⟩ := DataW.trod_array ht h
  intro i r hi hr
  have hx1 : xs.map (·.1) = rows.map (Lib.tabData k) := by
    have := congrArg Prod.fst hx
    simpa using this.symm
  have h2 := hel i hi
  rw [hc1, List.getElem?_eq_getElem (by omega)] at h2
  have h3 : (rows.map (Lib.tabData (H := H) k))[i]? = some (xs[i]'(by omega)).1 := by rw [← hx1]; simp [hxl, hi]
  rw [List.getElem?_map] at h3
  cases hrow : rows[i]? with
  | none => rw [hrow] at h3; cases h3
  | some row =>
    rw [hrow] at h3
    simp only [Option.map_some, Option.some.injEq] at h3
    have h4 : xs[i]'(by omega) = (Lib.tabData k row, (xs[i]'(by omega)).2) := by rw [h3]
    rw [h4] at h2
    have h5 := Lib.cells_of_tab h1 he hce hc1 h2
    have h6 := congrArg (·[r]?) h5
    simp only [List.getElem?_take, List.getElem?_drop, hr, if_true, List.getElem?_map] at h6
    rw [h6]; rfl
/-- A slice's elements, each with its cells. -/
theorem slice_open {t e : TypeId} {m fuel : Nat} {cs : List Value} {x : DataW H × List MemPlace} (ht : P.underlying t = some (.slice e)) (hce : P.cellsOf e = m) (hm : 0 < m) (h : DataW.trod enc P w base sp held fuel t cs = some x) :
    ∃ a len cap, cs = [.slice a len cap] ∧ len ≤ cap ∧ cap ≤ maxLen ∧ (a = none → cap = 0) ∧ (len = 0 ∨ ∃ g off, a = some ⟨g, off, none⟩ ∧ g < w.heap.size ∧ ∀ i, i < len →
      ∃ (ecs : List Value) (fuel' : Nat) (y : DataW H × List MemPlace), (∀ j, j < m → ∃ v, ecs[j]? = some v ∧ w.cell? ⟨g, off + (i * m + j), none⟩ = some v) ∧ DataW.trod enc P w base sp held fuel' e ecs = some y) := by
  rcases DataW.trod_slice ht h with ⟨rfl, _⟩ | ⟨a, len, cap, elems, rest, n, _, rfl, _, _, hl, hcm, hlen, hel, _, _⟩
  · exact ⟨none, 0, 0, rfl, by omega, by unfold maxLen; omega, fun _ => rfl, Or.inl rfl⟩
  · refine ⟨some a, len, cap, rfl, hl, hcm, fun h => (by cases h), ?_⟩
    rcases Nat.eq_zero_or_pos len with h0 | hpos
    · exact Or.inl h0
    · right
      have each : ∀ i, i < len → ∃ (ecs : List Value) (y : DataW H × List MemPlace), (∀ j, j < m → ∃ v, ecs[j]? = some v ∧ w.cell? ((a.add (i * m)).add j) = some v) ∧ DataW.trod enc P w base sp held n e ecs = some y := by
        intro i hi
        have h1 := hel i hi
        rw [hce, List.getElem?_eq_getElem (by omega), Option.bind_eq_some_iff] at h1
        obtain ⟨ecs, hc, hy⟩ := h1
        refine ⟨ecs, _, fun j hj => ?_, hy⟩
        unfold World.cells? at hc
        split at hc
        · exact Lib.mapM_at hc j j (by simp [hj])
        · cases hc
      have hsp : a.spot = none := by
        obtain ⟨ecs, y, hc, _⟩ := each 0 hpos
        obtain ⟨v, _, hv⟩ := hc 0 hm
        have e : (a.add (0 * m)).add 0 = a := by simp [Addr.add]
        rw [e] at hv
        exact World.cell?_spot hv
      obtain ⟨g, off, spot⟩ := a
      simp only at hsp
      subst hsp
      have hadd : ∀ i j, ((⟨g, off, none⟩ : Addr).add (i * m)).add j = ⟨g, off + (i * m + j), none⟩ := by
        intro i j
        unfold Addr.add
        by_cases h1 : i * m = 0
        · by_cases h2 : j = 0
          · simp [h1, h2]
          · simp [h1, h2]
        · by_cases h2 : j = 0
          · simp [h1, h2]
          · simp [h1, h2, Nat.add_assoc]
      refine ⟨g, off, rfl, ?_, fun i hi => ?_⟩
      · obtain ⟨ecs, y, hc, _⟩ := each 0 hpos
        obtain ⟨v, _, hv⟩ := hc 0 hm
        rw [hadd] at hv
        exact World.block_lt_of_cell? _ _ hv
      · obtain ⟨ecs, y, hc, hy⟩ := each i hi
        exact ⟨ecs, n, y, fun j hj => by obtain ⟨v, h1, h2⟩ := hc j hj; exact ⟨v, h1, by rw [← hadd]; exact h2⟩, hy⟩
theorem slB_open {t e : TypeId} {fuel : Nat} {cs : List Value} {x : DataW H × List MemPlace} (ht : P.underlying t = some (.slice e)) (he : P.underlying e = some (.int .u8)) (hce : P.cellsOf e = 1) (h : DataW.trod enc P w base sp held fuel t cs = some x) :
    ∃ a len cap f, cs = [.slice a len cap] ∧ len ≤ cap ∧ cap ≤ maxLen ∧ (a = none → cap = 0) ∧ SlB w a len f := by
  obtain ⟨a, len, cap, rfl, h1, h2, h3, h4⟩ := slice_open ht hce (by decide) h
  rcases h4 with rfl | ⟨g, off, rfl, hg, hi⟩
  · exact ⟨a, 0, cap, fun _ => 0, rfl, h1, h2, h3, SlB.zero _ _ _⟩
  · have hx : ∀ i, ∃ b : UInt8, i < len → w.cell? ⟨g, off + i, none⟩ = some (B b) := by
      intro i
      by_cases hil : i < len
      · obtain ⟨ecs, f', y, hc, hy⟩ := hi i hil
        obtain ⟨z, rfl, _, hw⟩ := DataW.trod_int he hy
        obtain ⟨v, hv1, hv2⟩ := hc 0 (by decide)
        simp at hv1
        subst hv1
        simp only [Lit.wf, Bool.and_eq_true, decide_eq_true_eq] at hw
        have h3 : 0 ≤ z ∧ z < 256 := by simp [IntKind.min, IntKind.max, IntKind.bits, IntKind.signed] at hw; omega
        obtain ⟨b, hb⟩ := bn_of z h3
        refine ⟨b, fun _ => ?_⟩
        rw [show off + i = off + (i * 1 + 0) by omega, hv2, hb]
      · exact ⟨0, fun h => absurd h hil⟩
    obtain ⟨f, hf⟩ := Classical.skolem.1 hx
    exact ⟨_, len, cap, f, rfl, h1, h2, h3, SlB.mk' hg hf⟩
/-- A slice of bytes that lies in memory. -/
structure SlE where
  a : Option Addr
  n : Nat
  c : Nat
  f : Nat → UInt8
def SlE.v (e : SlE) : Value := .slice e.a e.n e.c
structure SlE.ok (e : SlE) (w : World) : Prop where
  nc : e.n ≤ e.c
  cm : e.c ≤ maxLen
  nil : e.a = none → e.c = 0
  at' : SlB w e.a e.n e.f
theorem SlE.ok.ex {e : SlE} {w w' : World} (h : e.ok w) (k : Ex w w') : e.ok w' := ⟨h.nc, h.cm, h.nil, h.at'.ex k⟩
/-- A slice of one-cell elements. -/
structure SlV (w : World) (a : Option Addr) (n : Nat) (E : Nat → Value) : Prop where
  out : n = 0 ∨ ∃ g off, a = some ⟨g, off, none⟩ ∧ g < w.heap.size ∧ ∀ i, i < n → w.cell? ⟨g, off + i, none⟩ = some (E i)
theorem SlV.pos {w : World} {a : Option Addr} {n : Nat} {E : Nat → Value} (h : SlV w a n E) (hn : 0 < n) : ∃ g off, a = some ⟨g, off, none⟩ ∧ g < w.heap.size ∧ ∀ i, i < n → w.cell? ⟨g, off + i, none⟩ = some (E i) := by
  rcases h.out with h | h
  · omega
  · exact h
theorem rows_open {t q e : TypeId} {fuel : Nat} {cs : List Value} {x : DataW H × List MemPlace} (ht : P.underlying t = some (.slice q)) (hq : P.underlying q = some (.slice e)) (he : P.underlying e = some (.int .u8)) (hcq : P.cellsOf q = 1) (hce : P.cellsOf e = 1) (h : DataW.trod enc P w base sp held fuel t cs = some x) :
    ∃ (a : Option Addr) (len cap : Nat) (E : Nat → SlE), cs = [.slice a len cap] ∧ len ≤ cap ∧ cap ≤ maxLen ∧ (a = none → cap = 0) ∧ SlV w a len (fun i => SlE.v (E i)) ∧ ∀ i, i < len → (E i).ok w := by
  obtain ⟨a, len, cap, rfl, h1, h2, h3, h4⟩ := slice_open ht hcq (by decide) h
  rcases h4 with rfl | ⟨g, off, rfl, hg, hi⟩
  · exact ⟨a, 0, cap, fun _ => ⟨none, 0, 0, fun _ => 0⟩, rfl, h1, h2, h3, ⟨Or.inl rfl⟩, fun i hi => by omega⟩
  · have hx : ∀ i, ∃ b : SlE, i < len → w.cell? ⟨g, off + i, none⟩ = some b.v ∧ b.ok w := by
      intro i
      by_cases hil : i < len
      · obtain ⟨ecs, f', y, hc, hy⟩ := hi i hil
        obtain ⟨a', n', c', f, rfl, k1, k2, k3, k4⟩ := slB_open hq he hce hy
        obtain ⟨v, hv1, hv2⟩ := hc 0 (by decide)
        simp at hv1
        subst hv1
        refine ⟨⟨a', n', c', f⟩, fun _ => ⟨?_, k1, k2, k3, k4⟩⟩
        rw [show off + i = off + (i * 1 + 0) by omega, hv2]; rfl
      · exact ⟨⟨none, 0, 0, fun _ => 0⟩, fun h => absurd h hil⟩
    obtain ⟨E, hE⟩ := Classical.skolem.1 hx
    exact ⟨_, len, cap, E, rfl, h1, h2, h3, ⟨Or.inr ⟨g, off, rfl, hg, fun i hi => (hE i hi).1⟩⟩, fun i hi => (hE i hi).2⟩
theorem strs_open {t q : TypeId} {fuel : Nat} {cs : List Value} {x : DataW H × List MemPlace} (ht : P.underlying t = some (.slice q)) (hq : P.underlying q = some .string) (hcq : P.cellsOf q = 1) (h : DataW.trod enc P w base sp held fuel t cs = some x) :
    ∃ (a : Option Addr) (len cap : Nat) (E : Nat → ByteArray), cs = [.slice a len cap] ∧ len ≤ cap ∧ cap ≤ maxLen ∧ (a = none → cap = 0) ∧ SlV w a len (fun i => .string (E i)) ∧ ∀ i, i < len → (E i).size ≤ maxLen := by
  obtain ⟨a, len, cap, rfl, h1, h2, h3, h4⟩ := slice_open ht hcq (by decide) h
  rcases h4 with rfl | ⟨g, off, rfl, hg, hi⟩
  · exact ⟨a, 0, cap, fun _ => ⟨#[]⟩, rfl, h1, h2, h3, ⟨Or.inl rfl⟩, fun i hi => by omega⟩
  · have hx : ∀ i, ∃ b : ByteArray, i < len → w.cell? ⟨g, off + i, none⟩ = some (.string b) ∧ b.size ≤ maxLen := by
      intro i
      by_cases hil : i < len
      · obtain ⟨ecs, f', y, hc, hy⟩ := hi i hil
        obtain ⟨s, rfl, _, hs⟩ := DataW.trod_string hq hy
        obtain ⟨v, hv1, hv2⟩ := hc 0 (by decide)
        simp at hv1
        subst hv1
        refine ⟨s, fun _ => ⟨?_, hs⟩⟩
        rw [show off + i = off + (i * 1 + 0) by omega, hv2]
      · exact ⟨⟨#[]⟩, fun h => absurd h hil⟩
    obtain ⟨E, hE⟩ := Classical.skolem.1 hx
    exact ⟨_, len, cap, E, rfl, h1, h2, h3, ⟨Or.inr ⟨g, off, rfl, hg, fun i hi => (hE i hi).1⟩⟩, fun i hi => (hE i hi).2⟩
/-- A slice of elements of m cells. -/
structure SlN (w : World) (a : Option Addr) (n m : Nat) (E : Nat → Array Value) : Prop where
  out : n = 0 ∨ ∃ g off, a = some ⟨g, off, none⟩ ∧ g < w.heap.size ∧ ∀ i, i < n → cellsN w g (off + i * m) m = some (E i)
theorem SlN.pos {w : World} {a : Option Addr} {n m : Nat} {E : Nat → Array Value} (h : SlN w a n m E) (hn : 0 < n) : ∃ g off, a = some ⟨g, off, none⟩ ∧ g < w.heap.size ∧ ∀ i, i < n → cellsN w g (off + i * m) m = some (E i) := by
  rcases h.out with h | h
  · omega
  · exact h
theorem elems_open {α : Type} [Inhabited α] {t q : TypeId} {m fuel : Nat} {cs : List Value} {x : DataW H × List MemPlace} (K : α → Array Value) (hK : ∀ a, (K a).size = m) (ht : P.underlying t = some (.slice q)) (hcq : P.cellsOf q = m) (hm : 0 < m)
    (hq : ∀ (fuel : Nat) (ecs : List Value) (y : DataW H × List MemPlace), DataW.trod enc P w base sp held fuel q ecs = some y → ∃ a : α, ecs = (K a).toList) (h : DataW.trod enc P w base sp held fuel t cs = some x) :
    ∃ (a : Option Addr) (len cap : Nat) (E : Nat → α), cs = [.slice a len cap] ∧ len ≤ cap ∧ cap ≤ maxLen ∧ (a = none → cap = 0) ∧ SlN w a len m (fun i => K (E i)) := by
  obtain ⟨a, len, cap, rfl, h1, h2, h3, h4⟩ := slice_open ht hcq hm h
  rcases h4 with rfl | ⟨g, off, rfl, hg, hi⟩
  · exact ⟨a, 0, cap, fun _ => default, rfl, h1, h2, h3, ⟨Or.inl rfl⟩⟩
  · have hx : ∀ i, ∃ b : α, i < len → cellsN w g (off + i * m) m = some (K b) := by
      intro i
      by_cases hil : i < len
      · obtain ⟨ecs, f', y, hc, hy⟩ := hi i hil
        obtain ⟨b, rfl⟩ := hq _ _ _ hy
        refine ⟨b, fun _ => cellsN_some.2 ⟨hK b, fun j hj => ?_⟩⟩
        obtain ⟨v, hv1, hv2⟩ := hc j hj
        rw [Nat.add_assoc, hv2, ← hv1, Array.getElem?_toList]
      · exact ⟨default, fun h => absurd h hil⟩
    obtain ⟨E, hE⟩ := Classical.skolem.1 hx
    exact ⟨_, len, cap, E, rfl, h1, h2, h3, ⟨Or.inr ⟨g, off, rfl, hg, hE⟩⟩⟩
/-- A parameter that is a slice. -/
theorem arg_slice {t e : TypeId} {b0 : Nat} {r : Reach} {v : Value} {d : DataW H} {p : List MemPlace} (ht : P.underlying t = some (.slice e)) (h : Value.okWide P w r b0 t v) (hd : DataW.Trod enc P w base sp held t v d p) : ∃ (fuel : Nat) (x : DataW H × List MemPlace), DataW.trod enc P w base sp held fuel t [v] = some x := by
  obtain ⟨a, l, c, rfl⟩ := okWide_slice ht h
  obtain ⟨fuel, hf⟩ := hd
  exact ⟨fuel, _, hf⟩
end
end Go.Proofs.YtcdocklbpfdmeaaDoor

/- slices.Concat of rows of bytes. -/
set_option linter.unusedSimpArgs false
set_option linter.unusedVariables false
set_option maxRecDepth 20000
namespace Go.Proofs.YtcdocklbpfdmeaaDoor
open Go.RowKit
theorem grow_nil (n : Nat) (w : World) (hn : n ≤ 140737488355328) :
    Calls Tryd.prog 154 #[.slice none 0 0, I n] w fun e w' => ∃ v, e = .returned v ∧ w'.ownsRow w.heap.size 5 1 v 0 [] ∧ Ex w w' := by
  obtain ⟨i, hi, h1', h2', h3'⟩ := info_parts appu8.hi
  rcases Nat.eq_zero_or_pos n with h0 | hpos
  · subst h0
    go_enter Tryd.func154, Tryd.ntmps154
    go_wp2
    go_ret
    exact ⟨_, rfl, owns_nil _ _ _ _, (by (try show Ex _ _); repeat (first | (with_reducible exact ex_refl _) | (with_reducible assumption) | (with_reducible refine ex_drewL ?_) | (with_reducible refine ex_appR ?_ _) | (with_reducible refine ex_wx ?_ _) | (with_reducible refine ex_drew ?_) | (with_reducible refine ex_alloc ?_ _)))⟩
  · have hr := Lib.run_append_nil_zeros w 35 3 35 5 i (.int .u8 0) .i64 .i64 appu8.ht Tryd.underlying3 hi h1' n hpos (by omega) (by omega) (by rw [h3']; omega)
    have HR := Lib.hid hr
    clear hr
    have e1 : (0 : Int) < n := by omega
    go_enter Tryd.func154, Tryd.ntmps154
    go_wp2_with (at_builtin; refine Lib.wpList_append_run _ rfl _ _ _ _ rfl _ _ rfl rfl _ _ HR.out ?_)
    go_ret
    refine ⟨_, rfl, ?_, (by (try show Ex _ _); repeat (first | (with_reducible exact ex_refl _) | (with_reducible assumption) | (with_reducible refine ex_drewL ?_) | (with_reducible refine ex_appR ?_ _) | (with_reducible refine ex_wx ?_ _) | (with_reducible refine ex_drew ?_) | (with_reducible refine ex_alloc ?_ _)))⟩
    have h1 := grownCap_ge w n 0 5
    refine owns_drew (owns_new (xs := []) rfl (Nat.le_refl _) (Nat.zero_le _) (grownCap_le_maxLen w n 0 5 (by unfold maxLen; omega)) ?_ (by simp))
    rw [Array.size_append]
    have := manyC_size (.int .u8 0)
    unfold manyC madeCells at this
    simp [Builtin.zeroCells]
    omega
def catL (L : Nat → List UInt8) (n : Nat) : List UInt8 := (List.range n).flatMap L
theorem catL_succ (L : Nat → List UInt8) (n : Nat) : catL L (n + 1) = catL L n ++ L n := by
  unfold catL; rw [List.range_succ, List.flatMap_append]; simp
/-- **Concat**, a row of its own. -/
theorem concat_own (a : Option Addr) (n c : Nat) (V : Nat → Value) (L : Nat → List UInt8) (w : World) (hn : n ≤ c) (hc : c ≤ maxLen) (hs : SlV w a n V) (hV : ∀ i, i < n → SlS w (V i) (L i)) (hlen : ∀ k, k ≤ n → (catL L k).length ≤ 140737488355328) :
    Calls Tryd.prog 145 #[.slice a n c] w fun e w' => ∃ v, e = .returned v ∧ w'.ownsRow w.heap.size 5 1 v (catL L n).length (Lib.byteCells (catL L n)) ∧ Ex w w' := by
  unfold maxLen at hc
  have HV : Hid (∀ i, i < n → SlS w (V i) (L i)) := Lib.hid hV
  have HL : Hid (∀ k, k ≤ n → (catL L k).length ≤ 140737488355328) := Lib.hid hlen
  clear hV hlen
  go_enter Tryd.func145, Tryd.ntmps145
  go_wp2
  go_loopw [3, 11] (fun s i wr => ∃ k : Nat, k ≤ n ∧ s = I (catL L k).length ∧ i = I k ∧ wr = w) (fun _ i _ => n - (intOf i).toNat)
  case atStart => exact ⟨0, by omega, rfl, rfl, rfl⟩
  case round =>
    obtain ⟨k, hk, rfl, rfl, rfl⟩ := hrel
    by_cases hlt : k < n
    · obtain ⟨g, off, rfl, hg, hcell⟩ := hs.pos (by omega)
      have h1 := hcell k hlt
      obtain ⟨ad, c2, hv, _⟩ := (HV.out k hlt).out
      rw [hv] at h1
      clear hcell hv
      have hl1 := HL.out (k + 1) (by omega)
      rw [catL_succ, List.length_append] at hl1
      have hneg : ¬ ((catL L k).length : Int) + (L k).length < 0 := by omega
      go_wp2
      refine ⟨⟨k + 1, by omega, ?_, by go_num, by trivial⟩, by simp [intOf]; omega⟩
      rw [catL_succ, List.length_append]; go_num
    · obtain rfl : k = n := by omega
      have hl1 := HL.out k (by omega)
      clear hlt hk
      go_wp2_with (go_at_call 154; refine (grow_nil _ _ hl1).mono ?_; rintro e w' ⟨v, rfl, hown, X, rfl⟩)
      go_loopw [6, 27] (fun v i W2 => ∃ q : Nat, q ≤ k ∧ i = I q ∧ W2.ownsRow wr.heap.size 5 1 v (catL L q).length (Lib.byteCells (catL L q)) ∧ Ex wr W2) (fun _ i _ => k - (intOf i).toNat)
      case atStart => exact ⟨0, by omega, rfl, hown, (by (try show Ex _ _); repeat (first | (with_reducible exact ex_refl _) | (with_reducible assumption) | (with_reducible refine ex_drewL ?_) | (with_reducible refine ex_appR ?_ _) | (with_reducible refine ex_wx ?_ _) | (with_reducible refine ex_drew ?_) | (with_reducible refine ex_alloc ?_ _)))⟩
      case round =>
        obtain ⟨q, hq, rfl, hown, X2, rfl⟩ := hrel
        by_cases hlt : q < k
        · obtain ⟨g, off, rfl, hg, hcell⟩ := hs.pos (by omega)
          have h1 := hcell q hlt
          obtain ⟨ad, c2, hv, k1, k2, k3⟩ := (HV.out q hlt).out
          rw [hv] at h1
          clear hcell hv
          have hl2 := HL.out (q + 1) (by omega)
          rw [catL_succ, List.length_append] at hl2
          have HNEWS := Lib.hid (sll_news k3 (w' := wx wr X2) ⟨X2, rfl⟩)
          go_wp2_with (at_builtin; refine wpApp appu8 _ _ rfl rfl hown rfl ad (L q).length c2 (Lib.byteCells (L q)) rfl (by rw [bytes_len, Nat.mul_one]) HNEWS.out (bytes_one _) (by unfold maxLen; omega) (by omega) (by simp [go_sem]) (fun v' w1 hown2 hbe => ?_))
          refine ⟨⟨q + 1, by omega, by go_num, ?_, ex_of_below ((ex_below (by (try show Ex _ _); repeat (first | (with_reducible exact ex_refl _) | (with_reducible assumption) | (with_reducible refine ex_drewL ?_) | (with_reducible refine ex_appR ?_ _) | (with_reducible refine ex_wx ?_ _) | (with_reducible refine ex_drew ?_) | (with_reducible refine ex_alloc ?_ _)))).trans hbe)⟩, by simp [intOf]; omega⟩
          rw [catL_succ, List.length_append, ← bytes_app]
          exact hown2
        · obtain rfl : q = k := by omega
          clear hlt hq
          go_wp2
          go_ret
          exact ⟨_, rfl, hown, (by (try show Ex _ _); repeat (first | (with_reducible exact ex_refl _) | (with_reducible assumption) | (with_reducible refine ex_drewL ?_) | (with_reducible refine ex_appR ?_ _) | (with_reducible refine ex_wx ?_ _) | (with_reducible refine ex_drew ?_) | (with_reducible refine ex_alloc ?_ _)))⟩
/-- **Concat.** -/
theorem concat_any (a : Option Addr) (n c : Nat) (V : Nat → Value) (L : Nat → List UInt8) (w : World) (hn : n ≤ c) (hc : c ≤ maxLen) (hs : SlV w a n V) (hV : ∀ i, i < n → SlS w (V i) (L i)) (hlen : ∀ k, k ≤ n → (catL L k).length ≤ 140737488355328) :
    Calls Tryd.prog 145 #[.slice a n c] w (PostT w (catL L n)) :=
  (concat_own a n c V L w hn hc hs hV hlen).mono fun e w' ⟨v, h1, h2, h3⟩ => ⟨v, h1, owns_slt h2, h3⟩
def at3 {α : Type} (x y z : α) (i : Nat) : α := if i = 0 then x else if i = 1 then y else z
theorem cat3 (x y z : List UInt8) : catL (at3 x y z) 3 = x ++ (y ++ z) := by
  rw [catL_succ, catL_succ, catL_succ]; simp [catL, at3]
theorem concat3 {W W2 : World} {g : Nat} {t : TypeId} {v0 v1 v2 : Value} {x y z : List UInt8} (k : Ex (W.alloc (.cells #[v0, v1, v2] t)) W2) (hg : g = W.heap.size) (h0 : SlS W2 v0 x) (h1 : SlS W2 v1 y) (h2 : SlS W2 v2 z) (hl : x.length + (y.length + z.length) ≤ 140737488355328) :
    Calls Tryd.prog 145 #[.slice (some ⟨g, 0, none⟩) 3 3] W2 (PostT W2 (x ++ (y ++ z))) := by
  subst hg
  rw [← cat3]
  have hb := ex_block k (heap_alloc_new W (.cells #[v0, v1, v2] t))
  refine concat_any _ 3 3 (at3 v0 v1 v2) (at3 x y z) _ (by omega) (by decide) ⟨Or.inr ⟨_, 0, rfl, (Array.getElem?_eq_some_iff.1 hb).1, fun i hi => ?_⟩⟩ (fun i hi => ?_) (fun q hq => ?_)
  · rw [Nat.zero_add, cell_of_row _ W.heap.size i _ _ _ hb]
    have : i = 0 ∨ i = 1 ∨ i = 2 := by omega
    rcases this with rfl | rfl | rfl <;> rfl
  · have : i = 0 ∨ i = 1 ∨ i = 2 := by omega
    rcases this with rfl | rfl | rfl
    · exact h0
    · exact h1
    · exact h2
  · have : q = 0 ∨ q = 1 ∨ q = 2 ∨ q = 3 := by omega
    rcases this with rfl | rfl | rfl | rfl <;> simp [catL, at3, List.range_succ] <;> omega
end Go.Proofs.YtcdocklbpfdmeaaDoor
