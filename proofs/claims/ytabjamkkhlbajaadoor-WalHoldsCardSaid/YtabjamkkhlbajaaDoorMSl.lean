import Derived.Test.YtabjamkkhlbajaaDoorMTypes
import Derived.Lib.Hide
import Derived.Test.YtabjamkkhlbajaaDoorMMem
import Derived.ProofKit
import Derived.OpenShut
import Derived.Deep.DeepHandedRow
import Derived.Lib.LaidTab
import Derived.Carry
import Derived.OpenVars

/- Slices of bytes that read as bytes; nil, or of no byte, too. -/
set_option linter.unusedSimpArgs false
set_option linter.unusedVariables false
set_option maxRecDepth 20000
namespace Go.Proofs.YtabjamkkhlbajaaDoor
open Go.RowKit

/-- What lies behind a slice's address: the first n bytes of f. -/
structure SlB (w : World) (a : Option Addr) (n : Nat) (f : Nat → UInt8) : Prop where
  out : n = 0 ∨ ∃ g off, a = some ⟨g, off, none⟩ ∧ g < w.heap.size ∧ ∀ j, j < n → w.cell? ⟨g, off + j, none⟩ = some (B (f j))
theorem SlB.pos {w : World} {a : Option Addr} {n : Nat} {f : Nat → UInt8} (h : SlB w a n f) (hn : 0 < n) : ∃ g off, a = some ⟨g, off, none⟩ ∧ g < w.heap.size ∧ ∀ j, j < n → w.cell? ⟨g, off + j, none⟩ = some (B (f j)) := by
  rcases h.out with h | h
  · omega
  · exact h
theorem SlB.zero (w : World) (a : Option Addr) (f : Nat → UInt8) : SlB w a 0 f := ⟨Or.inl rfl⟩
theorem SlB.mk' {w : World} {g off n : Nat} {f : Nat → UInt8} (hg : g < w.heap.size) (h : ∀ j, j < n → w.cell? ⟨g, off + j, none⟩ = some (B (f j))) : SlB w (some ⟨g, off, none⟩) n f := ⟨Or.inr ⟨g, off, rfl, hg, h⟩⟩
theorem SlB.wx {w : World} {a : Option Addr} {n : Nat} {f : Nat → UInt8} (h : SlB w a n f) (X : More) : SlB (wx w X) a n f := by
  rcases h.out with h | ⟨g, off, h1, h2, h3⟩
  · exact ⟨Or.inl h⟩
  · exact ⟨Or.inr ⟨g, off, h1, by rw [wx_size]; omega, fun j hj => by rw [wx_cell _ _ _ h2]; exact h3 j hj⟩⟩
theorem SlB.ex {w w' : World} {a : Option Addr} {n : Nat} {f : Nat → UInt8} (h : SlB w a n f) (k : Ex w w') : SlB w' a n f := by
  obtain ⟨X, rfl⟩ := k; exact h.wx X
theorem SlB.cells {w : World} {g off n : Nat} {f : Nat → UInt8} (h : ∀ j, j < n → w.cell? ⟨g, off + j, none⟩ = some (B (f j))) (k m : Nat) (hk : k + m ≤ n) : cellsN w g (off + k) m = some (rowB m (shiftF f k)) := by
  refine cellsN_some.2 ⟨by simp, fun j hj => ?_⟩
  rw [Nat.add_assoc, h (k + j) (by omega), rowB_get, if_pos hj]; rfl
theorem SlB.congr {w : World} {a : Option Addr} {n : Nat} {f g : Nat → UInt8} (h : SlB w a n f) (e : ∀ i, i < n → f i = g i) : SlB w a n g := by
  rcases h.out with h | ⟨b, off, h1, h2, h3⟩
  · exact ⟨Or.inl h⟩
  · exact ⟨Or.inr ⟨b, off, h1, h2, fun j hj => by rw [← e j hj]; exact h3 j hj⟩⟩
/-- Where nothing goes over. -/
@[go_sem] theorem copy_none_u8 (ty sT n c : Nat) (d a : Option Addr) (c' : Nat) (w : World) : copyRun Tryd.prog #[22, sT] ty (.slice d n c) (.slice a 0 c') w = .ok (.value (.int .i64 0)) w := by
  unfold copyRun
  rw [run_copy_none w 22 sT ty 5 d a n c 0 c' Tryd.underlying22 (by kernel_rfl) (Nat.zero_min _)]; rfl
end Go.Proofs.YtabjamkkhlbajaaDoor

/- How a row's data are opened; what is left behind. Over whatever program. -/
set_option linter.unusedSimpArgs false
set_option linter.unusedVariables false
set_option maxRecDepth 20000
namespace Go.Proofs.YtabjamkkhlbajaaDoor
open Go.RowKit Go.ChangeShapes Go.WideShapes Go.ChangeAt
section
variable {H : Type} {enc : TypeId × Value → H} {P : Program} {w : World} {base : Nat} {sp : Nat → Bool} {held : Bool}
/-- **What a law leaves behind**: it was called, it said yes, nothing that was there has turned. -/
theorem law_post {f : Func} {s : ChangeSpec} {W W' : World} {args : Array Value} {b : TypeId} {ds gs : List (DataW H)} {before : List MemPlace} (hl : laidOutB P = true)
    (hr : ∀ t ∈ f.params.toList, P.readableRec t = true ∧ t < P.types.size) (hf : f.resultTypes = #[b]) (hb : P.underlying b = some .bool)
    (hs : s.fn H (ds ++ gs) = { results := [.lit (.bool true)], args := ds }) (hv : s.vars = [])
    (hW : DataW.Whole enc P f.params.toList s.vars false W args.toList ds gs before) (hbe : Below W.heap.size W W') : s.post enc P f false true false false W args (.bool true) W' := by
  have hlt := hW.lt
  have hW0 := hW
  obtain ⟨p, q, hA, hV, hpq, _, _⟩ := hW
  rw [hv] at hV
  obtain ⟨rfl, rfl⟩ := trodVars_none hV
  refine ⟨ds, [], before, [], p, [], hW0, ?_, ?_, ?_, hbe.frame _, fun h => by cases h⟩
  · rw [hs, hf]
    exact trodAll_cons_mk (shut_bool hb _) trodAll_mk0
  · rw [hs]
    have hpl : ∀ x ∈ p, x.block < W.heap.size := fun x hx => hlt x (by rw [hpq]; simp [hx])
    clear hW0 hlt hpq hs hV
    have : ∀ (ts : List TypeId) (vs : List Value) (ds : List (DataW H)) (p : List MemPlace), (∀ t ∈ ts, P.readableRec t = true ∧ t < P.types.size) → (∀ x ∈ p, x.block < W.heap.size) →
        DataW.TrodAll enc P W 0 (fun _ => true) true ts vs ds p → DataW.TrodAll enc P W' 0 (fun b => decide (b < W.heap.size)) true ts vs ds p := by
      intro ts
      induction ts with
      | nil => intro vs ds p _ _ h; cases vs <;> cases ds <;> exact h
      | cons t ts ih =>
        intro vs ds p hr hp h
        cases vs with
        | nil => cases ds <;> exact h.elim
        | cons v vs =>
          cases ds with
          | nil => exact h.elim
          | cons d ds =>
            obtain ⟨p1, p2, h1, h2, rfl⟩ := h
            have ht := hr t List.mem_cons_self
            exact ⟨p1, p2, Below.trod hl ht.1 ht.2 h1 hbe (fun x hx => hp x (List.mem_append_left _ hx)), ih vs ds p2 (fun t h => hr t (List.mem_cons_of_mem _ h)) (fun x hx => hp x (List.mem_append_right _ hx)) h2, rfl⟩
    exact this _ _ _ _ hr hpl hA
  · rw [hs, hv]; exact rfl
/-- A variable of rows of numbers. -/
theorem nest_of_tab {t e1 e : TypeId} {n m fuel : Nat} {k : IntKind} {cs : List Value} {rows : List (List Int)} {p : List MemPlace} (ht : P.underlying t = some (.array n e1)) (h1 : P.underlying e1 = some (.array m e)) (he : P.underlying e = some (.int k)) (hce : P.cellsOf e = 1) (hc1 : P.cellsOf e1 = m)
    (h : DataW.trod enc P w base sp held fuel t cs = some (.agg (rows.map (Lib.tabData k)), p)) : ∀ i r, i < n → r < m → cs[i * m + r]? = ((rows[i]?).bind (·[r]?)).map (Value.int k) := by
  obtain ⟨xs, q, _, hx, hl, hxl, hel⟩ := DataW.trod_array ht h
  intro i r hi hr
  have hx1 : xs.map (·.1) = rows.map (Lib.tabData k) := by
    have := congrArg Prod.fst hx
    simpa using this.symm
  have h2 := hel i hi
  rw [hc1, List.getElem?_eq_getElem (by omega)] at h2
  have h3 : (rows.map (Lib.tabData (H := H) k))[i]? = some (xs[i]'(by omega)).1 := by rw [← hx1]; simp [hxl, hi]
  rw [List.getElem?_map] at h3
  cases hrow : rows[i]? with
  | none => rw [hrow] at h3; cases h3
  | some row =>
    rw [hrow] at h3
    simp only [Option.map_some, Option.some.injEq] at h3
    have h4 : xs[i]'(by omega) = (Lib.tabData k row, (xs[i]'(by omega)).2) := by rw [h3]
    rw [h4] at h2
    have h5 := Lib.cells_of_tab h1 he hce hc1 h2
    have h6 := congrArg (·[r]?) h5
    simp only [List.getElem?_take, List.getElem?_drop, hr, if_true, List.getElem?_map] at h6
    rw [h6]; rfl
/-- A slice's elements, each with its cells. -/
theorem slice_open {t e : TypeId} {m fuel : Nat} {cs : List Value} {x : DataW H × List MemPlace} (ht : P.underlying t = some (.slice e)) (hce : P.cellsOf e = m) (hm : 0 < m) (h : DataW.trod enc P w base sp held fuel t cs = some x) :
    ∃ a len cap, cs = [.slice a len cap] ∧ len ≤ cap ∧ cap ≤ maxLen ∧ (a = none → cap = 0) ∧ (len = 0 ∨ ∃ g off, a = some ⟨g, off, none⟩ ∧ g < w.heap.size ∧ ∀ i, i < len →
      ∃ (ecs : List Value) (fuel' : Nat) (y : DataW H × List MemPlace), (∀ j, j < m → ∃ v, ecs[j]? = some v ∧ w.cell? ⟨g, off + (i * m + j), none⟩ = some v) ∧ DataW.trod enc P w base sp held fuel' e ecs = some y) := by
  rcases DataW.trod_slice ht h with ⟨rfl, _⟩ | ⟨a, len, cap, elems, rest, n, _, rfl, _, _, hl, hcm, hlen, hel, _, _⟩
  · exact ⟨none, 0, 0, rfl, by omega, by unfold maxLen; omega, fun _ => rfl, Or.inl rfl⟩
  · refine ⟨some a, len, cap, rfl, hl, hcm, fun h => (by cases h), ?_⟩
    rcases Nat.eq_zero_or_pos len with h0 | hpos
    · exact Or.inl h0
    · right
      have each : ∀ i, i < len → ∃ (ecs : List Value) (y : DataW H × List MemPlace), (∀ j, j < m → ∃ v, ecs[j]? = some v ∧ w.cell? ((a.add (i * m)).add j) = some v) ∧ DataW.trod enc P w base sp held n e ecs = some y := by
        intro i hi
        have h1 := hel i hi
        rw [hce, List.getElem?_eq_getElem (by omega), Option.bind_eq_some_iff] at h1
        obtain ⟨ecs, hc, hy⟩ := h1
        refine ⟨ecs, _, fun j hj => ?_, hy⟩
        unfold World.cells? at hc
        split at hc
        · exact Lib.mapM_at hc j j (by simp [hj])
        · cases hc
      have hsp : a.spot = none := by
        obtain ⟨ecs, y, hc, _⟩ := each 0 hpos
        obtain ⟨v, _, hv⟩ := hc 0 hm
        have e : (a.add (0 * m)).add 0 = a := by simp [Addr.add]
        rw [e] at hv
        exact World.cell?_spot hv
      obtain ⟨g, off, spot⟩ := a
      simp only at hsp
      subst hsp
      have hadd : ∀ i j, ((⟨g, off, none⟩ : Addr).add (i * m)).add j = ⟨g, off + (i * m + j), none⟩ := by
        intro i j
        unfold Addr.add
        by_cases h1 : i * m = 0
        · by_cases h2 : j = 0
          · simp [h1, h2]
          · simp [h1, h2]
        · by_cases h2 : j = 0
          · simp [h1, h2]
          · simp [h1, h2, Nat.add_assoc]
      refine ⟨g, off, rfl, ?_, fun i hi => ?_⟩
      · obtain ⟨ecs, y, hc, _⟩ := each 0 hpos
        obtain ⟨v, _, hv⟩ := hc 0 hm
        rw [hadd] at hv
        exact World.block_lt_of_cell? _ _ hv
      · obtain ⟨ecs, y, hc, hy⟩ := each i hi
        exact ⟨ecs, n, y, fun j hj => by obtain ⟨v, h1, h2⟩ := hc j hj; exact ⟨v, h1, by rw [← hadd]; exact h2⟩, hy⟩
theorem slB_open {t e : TypeId} {fuel : Nat} {cs : List Value} {x : DataW H × List MemPlace} (ht : P.underlying t = some (.slice e)) (he : P.underlying e = some (.int .u8)) (hce : P.cellsOf e = 1) (h : DataW.trod enc P w base sp held fuel t cs = some x) :
    ∃ a len cap f, cs = [.slice a len cap] ∧ len ≤ cap ∧ cap ≤ maxLen ∧ (a = none → cap = 0) ∧ SlB w a len f := by
  obtain ⟨a, len, cap, rfl, h1, h2, h3, h4⟩ := slice_open ht hce (by decide) h
  rcases h4 with rfl | ⟨g, off, rfl, hg, hi⟩
  · exact ⟨a, 0, cap, fun _ => 0, rfl, h1, h2, h3, SlB.zero _ _ _⟩
  · have hx : ∀ i, ∃ b : UInt8, i < len → w.cell? ⟨g, off + i, none⟩ = some (B b) := by
      intro i
      by_cases hil : i < len
      · obtain ⟨ecs, f', y, hc, hy⟩ := hi i hil
        obtain ⟨z, rfl, _, hw⟩ := DataW.trod_int he hy
        obtain ⟨v, hv1, hv2⟩ := hc 0 (by decide)
        simp at hv1
        subst hv1
        simp only [Lit.wf, Bool.and_eq_true, decide_eq_true_eq] at hw
        have h3 : 0 ≤ z ∧ z < 256 := by simp [IntKind.min, IntKind.max, IntKind.bits, IntKind.signed] at hw; omega
        obtain ⟨b, hb⟩ := bn_of z h3
        refine ⟨b, fun _ => ?_⟩
        rw [show off + i = off + (i * 1 + 0) by omega, hv2, hb]
      · exact ⟨0, fun h => absurd h hil⟩
    obtain ⟨f, hf⟩ := Classical.skolem.1 hx
    exact ⟨_, len, cap, f, rfl, h1, h2, h3, SlB.mk' hg hf⟩
/-- A slice of bytes that lies in memory. -/
structure SlE where
  a : Option Addr
  n : Nat
  c : Nat
  f : Nat → UInt8
def SlE.v (e : SlE) : Value := .slice e.a e.n e.c
structure SlE.ok (e : SlE) (w : World) : Prop where
  nc : e.n ≤ e.c
  cm : e.c ≤ maxLen
  nil : e.a = none → e.c = 0
  at' : SlB w e.a e.n e.f
theorem SlE.ok.ex {e : SlE} {w w' : World} (h : e.ok w) (k : Ex w w') : e.ok w' := ⟨h.nc, h.cm, h.nil, h.at'.ex k⟩
/-- A slice of one-cell elements. -/
structure SlV (w : World) (a : Option Addr) (n : Nat) (E : Nat → Value) : Prop where
  out : n = 0 ∨ ∃ g off, a = some ⟨g, off, none⟩ ∧ g < w.heap.size ∧ ∀ i, i < n → w.cell? ⟨g, off + i, none⟩ = some (E i)
theorem SlV.pos {w : World} {a : Option Addr} {n : Nat} {E : Nat → Value} (h : SlV w a n E) (hn : 0 < n) : ∃ g off, a = some ⟨g, off, none⟩ ∧ g < w.heap.size ∧ ∀ i, i < n → w.cell? ⟨g, off + i, none⟩ = some (E i) := by
  rcases h.out with h | h
  · omega
  · exact h
/-- A slice of elements of m cells. -/
structure SlN (w : World) (a : Option Addr) (n m : Nat) (E : Nat → Array Value) : Prop where
  out : n = 0 ∨ ∃ g off, a = some ⟨g, off, none⟩ ∧ g < w.heap.size ∧ ∀ i, i < n → cellsN w g (off + i * m) m = some (E i)
theorem SlN.pos {w : World} {a : Option Addr} {n m : Nat} {E : Nat → Array Value} (h : SlN w a n m E) (hn : 0 < n) : ∃ g off, a = some ⟨g, off, none⟩ ∧ g < w.heap.size ∧ ∀ i, i < n → cellsN w g (off + i * m) m = some (E i) := by
  rcases h.out with h | h
  · omega
  · exact h
/-- A parameter that is a slice. -/
theorem arg_slice {t e : TypeId} {b0 : Nat} {r : Reach} {v : Value} {d : DataW H} {p : List MemPlace} (ht : P.underlying t = some (.slice e)) (h : Value.okWide P w r b0 t v) (hd : DataW.Trod enc P w base sp held t v d p) : ∃ (fuel : Nat) (x : DataW H × List MemPlace), DataW.trod enc P w base sp held fuel t [v] = some x := by
  obtain ⟨a, l, c, rfl⟩ := okWide_slice ht h
  obtain ⟨fuel, hf⟩ := hd
  exact ⟨fuel, _, hf⟩
end
end Go.Proofs.YtabjamkkhlbajaaDoor
