import Derived.Test.YtdohohafdplkiaaMDkUa
import Derived.Test.YtdohohafdplkiaaRows
import Derived.ProofKit
import Derived.OpenShut
import Derived.Deep.DeepHandedRow
import Derived.Lib.LaidTab
import Derived.Carry
import Derived.OpenVars

/- How a row's data are opened; what is left behind; numbers, bools, questions (disks). -/
set_option linter.unusedSimpArgs false
set_option linter.unusedVariables false
set_option maxRecDepth 20000
namespace Go.Proofs.Ytdohohafdplkiaa
open Go.RowKit Go.ChangeShapes Go.WideShapes Go.ChangeAt
section
variable {H : Type} {enc : TypeId × Value → H} {P : Program} {w : World} {base : Nat} {sp : Nat → Bool} {held : Bool}
/-- **What a law leaves behind**: it was called, it said yes, nothing that was there has turned. -/
theorem law_post {f : Func} {s : ChangeSpec} {W W' : World} {args : Array Value} {b : TypeId} {ds gs : List (DataW H)} {before : List MemPlace} (hl : laidOutB P = true)
    (hr : ∀ t ∈ f.params.toList, P.readableRec t = true ∧ t < P.types.size) (hf : f.resultTypes = #[b]) (hb : P.underlying b = some .bool)
    (hs : s.fn H (ds ++ gs) = { results := [.lit (.bool true)], args := ds }) (hv : s.vars = [])
    (hW : DataW.Whole enc P f.params.toList s.vars false W args.toList ds gs before) (hbe : Below W.heap.size W W') : s.post enc P f false true false false W args (.bool true) W' := by
  have hlt := hW.lt
  have hW0 := hW
  obtain ⟨p, q, hA, hV, hpq, _, _⟩ := hW
  rw [hv] at hV
  obtain ⟨rfl, rfl⟩ := trodVars_none hV
  refine ⟨ds, [], before, [], p, [], hW0, ?_, ?_, ?_, hbe.frame _, fun h => by cases h⟩
  · rw [hs, hf]
    exact trodAll_cons_mk (shut_bool hb _) trodAll_mk0
  · rw [hs]
    have hpl : ∀ x ∈ p, x.block < W.heap.size := fun x hx => hlt x (by rw [hpq]; simp [hx])
    clear hW0 hlt hpq hs hV
    have : ∀ (ts : List TypeId) (vs : List Value) (ds : List (DataW H)) (p : List MemPlace), (∀ t ∈ ts, P.readableRec t = true ∧ t < P.types.size) → (∀ x ∈ p, x.block < W.heap.size) →
        DataW.TrodAll enc P W 0 (fun _ => true) true ts vs ds p → DataW.TrodAll enc P W' 0 (fun b => decide (b < W.heap.size)) true ts vs ds p := by
      intro ts
      induction ts with
      | nil => intro vs ds p _ _ h; cases vs <;> cases ds <;> exact h
      | cons t ts ih =>
        intro vs ds p hr hp h
        cases vs with
        | nil => cases ds <;> exact h.elim
        | cons v vs =>
          cases ds with
          | nil => exact h.elim
          | cons d ds =>
            obtain ⟨p1, p2, h1, h2, rfl⟩ := h
            have ht := hr t List.mem_cons_self
            exact ⟨p1, p2, Below.trod hl ht.1 ht.2 h1 hbe (fun x hx => hp x (List.mem_append_left _ hx)), ih vs ds p2 (fun t h => hr t (List.mem_cons_of_mem _ h)) (fun x hx => hp x (List.mem_append_right _ hx)) h2, rfl⟩
    exact this _ _ _ _ hr hpl hA
  · rw [hs, hv]; exact rfl
/-- A slice's elements, each with its cells. -/
theorem slice_open {t e : TypeId} {m fuel : Nat} {cs : List Value} {x : DataW H × List MemPlace} (ht : P.underlying t = some (.slice e)) (hce : P.cellsOf e = m) (hm : 0 < m) (h : DataW.trod enc P w base sp held fuel t cs = some x) :
    ∃ a len cap, cs = [.slice a len cap] ∧ len ≤ cap ∧ cap ≤ maxLen ∧ (a = none → cap = 0) ∧ (len = 0 ∨ ∃ g off, a = some ⟨g, off, none⟩ ∧ g < w.heap.size ∧ ∀ i, i < len →
      ∃ (ecs : List Value) (fuel' : Nat) (y : DataW H × List MemPlace), (∀ j, j < m → ∃ v, ecs[j]? = some v ∧ w.cell? ⟨g, off + (i * m + j), none⟩ = some v) ∧ DataW.trod enc P w base sp held fuel' e ecs = some y) := by
  rcases DataW.trod_slice ht h with ⟨rfl, _⟩ | ⟨a, len, cap, elems, rest, n, _, rfl, _, _, hl, hcm, hlen, hel, _, _⟩
  · exact ⟨none, 0, 0, rfl, by omega, by unfold maxLen; omega, fun _ => rfl, Or.inl rfl⟩
  · refine ⟨some a, len, cap, rfl, hl, hcm, fun h => (by cases h), ?_⟩
    rcases Nat.eq_zero_or_pos len with h0 | hpos
    · exact Or.inl h0
    · right
      have each : ∀ i, i < len → ∃ (ecs : List Value) (y : DataW H × List MemPlace), (∀ j, j < m → ∃ v, ecs[j]? = some v ∧ w.cell? ((a.add (i * m)).add j) = some v) ∧ DataW.trod enc P w base sp held n e ecs = some y := by
        intro i hi
        have h1 := hel i hi
        rw [hce, List.getElem?_eq_getElem (by omega), Option.bind_eq_some_iff] at h1
        obtain ⟨ecs, hc, hy⟩ := h1
        refine ⟨ecs, _, fun j hj => ?_, hy⟩
        unfold World.cells? at hc
        split at hc
        · exact Lib.mapM_at hc j j (by simp [hj])
        · cases hc
      have hsp : a.spot = none := by
        obtain ⟨ecs, y, hc, _⟩ := each 0 hpos
        obtain ⟨v, _, hv⟩ := hc 0 hm
        have e : (a.add (0 * m)).add 0 = a := by simp [Addr.add]
        rw [e] at hv
        exact World.cell?_spot hv
      obtain ⟨g, off, spot⟩ := a
      simp only at hsp
      subst hsp
      have hadd : ∀ i j, ((⟨g, off, none⟩ : Addr).add (i * m)).add j = ⟨g, off + (i * m + j), none⟩ := by
        intro i j
        unfold Addr.add
        by_cases h1 : i * m = 0
        · by_cases h2 : j = 0
          · simp [h1, h2]
          · simp [h1, h2]
        · by_cases h2 : j = 0
          · simp [h1, h2]
          · simp [h1, h2, Nat.add_assoc]
      refine ⟨g, off, rfl, ?_, fun i hi => ?_⟩
      · obtain ⟨ecs, y, hc, _⟩ := each 0 hpos
        obtain ⟨v, _, hv⟩ := hc 0 hm
        rw [hadd] at hv
        exact World.block_lt_of_cell? _ _ hv
      · obtain ⟨ecs, y, hc, hy⟩ := each i hi
        exact ⟨ecs, n, y, fun j hj => by obtain ⟨v, h1, h2⟩ := hc j hj; exact ⟨v, h1, by rw [← hadd]; exact h2⟩, hy⟩
/-- A parameter that is a slice. -/
theorem arg_slice {t e : TypeId} {b0 : Nat} {r : Reach} {v : Value} {d : DataW H} {p : List MemPlace} (ht : P.underlying t = some (.slice e)) (h : Value.okWide P w r b0 t v) (hd : DataW.Trod enc P w base sp held t v d p) : ∃ (fuel : Nat) (x : DataW H × List MemPlace), DataW.trod enc P w base sp held fuel t [v] = some x := by
  obtain ⟨a, l, c, rfl⟩ := okWide_slice ht h
  obtain ⟨fuel, hf⟩ := hd
  exact ⟨fuel, _, hf⟩
end
theorem ownK : ownKnob Try.prog.godebug = none := by kernel_rfl
theorem laidOutK : laidOutB Try.prog = true := by kernel_rfl
theorem cask : Try.prog.cellsOf 37 = 4 := by kernel_rfl
theorem cint : Try.prog.cellsOf 3 = 1 := by kernel_rfl
theorem cbool : Try.prog.cellsOf 4 = 1 := by kernel_rfl
theorem cbools : Try.prog.cellsOf 35 = 1 := by kernel_rfl
def mkL {α : Type} (n : Nat) (E : Nat → α) : List α := (List.range n).map E
theorem mkL_len {α : Type} (n : Nat) (E : Nat → α) : (mkL n E).length = n := by simp [mkL]
theorem mkL_get {α : Type} {n : Nat} {E : Nat → α} {i : Nat} {e : α} (h : (mkL n E)[i]? = some e) : i < n ∧ E i = e := by
  have hi : i < n := by
    have := (List.getElem?_eq_some_iff.1 h).1
    rwa [mkL_len] at this
  unfold mkL at h
  rw [List.getElem?_map, List.getElem?_range hi] at h
  exact ⟨hi, by simpa using h⟩
theorem mkL_mem {α : Type} {n : Nat} {E : Nat → α} {e : α} (h : e ∈ mkL n E) : ∃ i, i < n ∧ E i = e := by
  unfold mkL at h
  obtain ⟨i, hi, he⟩ := List.mem_map.1 h
  exact ⟨i, List.mem_range.1 hi, he⟩
section
variable {H : Type} {enc : TypeId × Value → H} {w : World} {base : Nat} {sp : Nat → Bool} {held : Bool}
theorem int_of_trod {fuel : Nat} {cs : List Value} {x : DataW H × List MemPlace} (h : DataW.trod enc Try.prog w base sp held fuel 3 cs = some x) : ∃ n : Int, cs = [I n] ∧ -9223372036854775808 ≤ n ∧ n < 9223372036854775808 := by
  obtain ⟨n, hn, _, hw⟩ := DataW.trod_int Try.underlying3 h
  simp only [Lit.wf, Bool.and_eq_true, decide_eq_true_eq] at hw
  simp [IntKind.min, IntKind.max, IntKind.bits, IntKind.signed] at hw
  exact ⟨n, hn, by omega, by omega⟩
theorem argInt {b0 : Nat} {r : Reach} {v : Value} {d : DataW H} {p : List MemPlace} (h : Value.okWide Try.prog w r b0 3 v) (hd : DataW.Trod enc Try.prog w base sp held 3 v d p) : ∃ n : Int, v = I n ∧ -9223372036854775808 ≤ n ∧ n < 9223372036854775808 := by
  obtain ⟨n, rfl, _, _, hw⟩ := open_int Try.underlying3 h hd
  simp only [Lit.wf, Bool.and_eq_true, decide_eq_true_eq] at hw
  simp [IntKind.min, IntKind.max, IntKind.bits, IntKind.signed] at hw
  exact ⟨n, rfl, by omega, by omega⟩
theorem bools_of_trod {fuel : Nat} {cs : List Value} {x : DataW H × List MemPlace} (h : DataW.trod enc Try.prog w base sp held fuel 35 cs = some x) : ∃ v l, cs = [v] ∧ SlV1 KBo 1 w v l := by
  obtain ⟨a, len, cap, rfl, h1, h2, h3, h4⟩ := slice_open Try.underlying35 cbool (by decide) h
  rcases h4 with rfl | ⟨g, off, rfl, hg, hi⟩
  · exact ⟨_, [], rfl, ⟨a, cap, rfl, h1, h2, h3, SlR.nil _ _ _ _⟩⟩
  · have hx : ∀ i, ∃ b : Bool, i < len → w.cell? ⟨g, off + i, none⟩ = some (.bool b) := by
      intro i
      by_cases hil : i < len
      · obtain ⟨ecs, f', y, hc, hy⟩ := hi i hil
        obtain ⟨b, rfl, _⟩ := DataW.trod_bool Try.underlying4 hy
        obtain ⟨v, hv1, hv2⟩ := hc 0 (by decide)
        simp at hv1
        subst hv1
        exact ⟨b, fun _ => by rw [show off + i = off + (i * 1 + 0) by omega, hv2]⟩
      · exact ⟨false, fun h => absurd h hil⟩
    obtain ⟨E, hE⟩ := Classical.skolem.1 hx
    refine ⟨_, mkL len E, rfl, ⟨some ⟨g, off, none⟩, cap, by rw [mkL_len], by rw [mkL_len]; exact h1, h2, h3, ⟨Or.inr ⟨g, off, rfl, hg, fun i b hb => ?_⟩⟩⟩⟩
    obtain ⟨hil, rfl⟩ := mkL_get hb
    refine cellsN_some.2 ⟨rfl, fun j hj => ?_⟩
    obtain rfl : j = 0 := by omega
    rw [Nat.mul_one]
    exact hE i hil
theorem shape_lt {w : World} {b : Nat} {x : TypeId × Nat} (h : w.shape? b = some x) : b < w.heap.size := by
  rcases Nat.lt_or_ge b w.heap.size with h1 | h1
  · exact h1
  · simp [World.shape?, Array.getElem?_eq_none h1] at h
theorem argBools {b0 : Nat} {r : Reach} {v : Value} {d : DataW H} {p : List MemPlace} (h : Value.okWide Try.prog w r b0 35 v) (hd : DataW.Trod enc Try.prog w base sp held 35 v d p) : ∃ a n c l, v = .slice a n c ∧ SlV1 KBo 1 w (.slice a n c) l ∧ ∀ g, (Value.slice a n c).ownBlock = some g → g < w.heap.size := by
  obtain ⟨fuel, x, hx⟩ := arg_slice Try.underlying35 h hd
  obtain ⟨v', l, e, hs⟩ := bools_of_trod hx
  obtain rfl : v = v' := by simpa using e
  obtain ⟨a, c, rfl, h1, h2, h3, h4⟩ := hs.out
  refine ⟨a, _, c, l, rfl, ⟨a, c, rfl, h1, h2, h3, h4⟩, fun g hg => ?_⟩
  cases a with
  | none => cases hg
  | some ad =>
    obtain rfl : ad.block = g := Option.some.inj hg
    simp only [Value.okWide, Try.underlying35, Cell.okWide, Cell.ok] at h
    obtain ⟨_, _, _, _, row, cells, hsh, _⟩ := h
    exact shape_lt hsh
theorem ask_of_trod {fuel : Nat} {cs : List Value} {x : DataW H × List MemPlace} (h : DataW.trod enc Try.prog w base sp held fuel 37 cs = some x) : ∃ p : Ak × Value, cs = KA p ∧ SlV1 KBo 1 w p.2 p.1.keep ∧ AkB p.1 := by
  obtain ⟨xs, m, _, _, hl, hxl, hel⟩ := DataW.trod_struct Try.underlying37 h
  rw [cask] at hl
  have hxl' : xs.length = 4 := hxl
  have e0 : DataW.trod enc Try.prog w base sp held m 3 ((cs.drop 0).take (Try.prog.cellsOf 3)) = xs[0]? := hel 0 _ rfl
  have e1 : DataW.trod enc Try.prog w base sp held m 3 ((cs.drop 1).take (Try.prog.cellsOf 3)) = xs[1]? := hel 1 _ rfl
  have e2 : DataW.trod enc Try.prog w base sp held m 3 ((cs.drop 2).take (Try.prog.cellsOf 3)) = xs[2]? := hel 2 _ rfl
  have e3 : DataW.trod enc Try.prog w base sp held m 35 ((cs.drop 3).take (Try.prog.cellsOf 35)) = xs[3]? := hel 3 _ rfl
  rw [cint] at e0 e1 e2
  rw [cbools] at e3
  rw [List.getElem?_eq_getElem (by omega)] at e0 e1 e2 e3
  obtain ⟨n0, h0, b0⟩ := int_of_trod e0
  obtain ⟨n1, h1, b1⟩ := int_of_trod e1
  obtain ⟨n2, h2, b2⟩ := int_of_trod e2
  obtain ⟨v, l, h3, s3⟩ := bools_of_trod e3
  obtain ⟨a0, a1, a2, a3, rfl⟩ : ∃ a b c d, cs = [a, b, c, d] := by
    match cs, hl with
    | [a, b, c, d], _ => exact ⟨a, b, c, d, rfl⟩
  simp at h0 h1 h2 h3
  subst h0 h1 h2 h3
  exact ⟨(⟨n0, n1, n2, l⟩, a3), rfl, s3, ⟨b1.1, b1.2, b2.2, b2.1⟩⟩
theorem argAsk {b0 : Nat} {r : Reach} {v : Value} {d : DataW H} {p : List MemPlace} (h : Value.okWide Try.prog w r b0 37 v) (hd : DataW.Trod enc Try.prog w base sp held 37 v d p) : ∃ (a : Ak) (kv : Value), v = AV a kv ∧ SlV1 KBo 1 w kv a.keep ∧ AkB a := by
  obtain ⟨cs, rfl, _⟩ := okWide_struct Try.underlying37 h
  obtain ⟨fuel, hf⟩ := hd
  obtain ⟨⟨a, kv⟩, e, h1, h2⟩ := ask_of_trod hf
  refine ⟨a, kv, ?_, h1, h2⟩
  unfold AV
  congr 1
  simpa [Value.cells, KA] using congrArg List.toArray e
theorem argAsks {b0 : Nat} {r : Reach} {v : Value} {d : DataW H} {p : List MemPlace} (h : Value.okWide Try.prog w r b0 22 v) (hd : DataW.Trod enc Try.prog w base sp held 22 v d p) : ∃ m, AksV w v m := by
  obtain ⟨fuel, x, hx⟩ := arg_slice Try.underlying22 h hd
  obtain ⟨a, len, cap, hv, h1, h2, h3, h4⟩ := slice_open Try.underlying22 cask (by decide) hx
  obtain rfl : v = .slice a len cap := by simpa using hv
  rcases h4 with rfl | ⟨g, off, rfl, hg, hi⟩
  · exact ⟨[], ⟨⟨a, cap, rfl, h1, h2, h3, SlR.nil _ _ _ _⟩⟩, (fun _ h => by cases h), (fun _ h => by cases h)⟩
  · have hx : ∀ i, ∃ q : Ak × Value, i < len → cellsN w g (off + i * 4) 4 = some (KA q).toArray ∧ SlV1 KBo 1 w q.2 q.1.keep ∧ AkB q.1 := by
      intro i
      by_cases hil : i < len
      · obtain ⟨ecs, f', y, hc, hy⟩ := hi i hil
        obtain ⟨q, rfl, hq, hb⟩ := ask_of_trod hy
        refine ⟨q, fun _ => ⟨cellsN_some.2 ⟨rfl, fun j hj => ?_⟩, hq, hb⟩⟩
        obtain ⟨v, hv1, hv2⟩ := hc j hj
        rw [Nat.add_assoc, hv2, ← hv1, List.getElem?_toArray]
      · exact ⟨(⟨0, 0, 0, []⟩, undef), fun h => absurd h hil⟩
    obtain ⟨E, hE⟩ := Classical.skolem.1 hx
    refine ⟨mkL len E, ⟨some ⟨g, off, none⟩, cap, by rw [mkL_len], by rw [mkL_len]; exact h1, h2, h3, ⟨Or.inr ⟨g, off, rfl, hg, fun i b hb => ?_⟩⟩⟩, fun q hq => ?_, fun q hq => ?_⟩
    · obtain ⟨hil, rfl⟩ := mkL_get hb
      exact (hE i hil).1
    · obtain ⟨i, hil, rfl⟩ := mkL_mem hq
      exact (hE i hil).2.1
    · obtain ⟨i, hil, rfl⟩ := mkL_mem hq
      exact (hE i hil).2.2
end
end Go.Proofs.Ytdohohafdplkiaa
