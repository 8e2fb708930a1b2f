import Derived.Test.YtdohohafdplkiaaMOwn
import Derived.Laws.IdiomCopy

/- Slices that read as lists, whatever their elements. Over whatever program. -/
set_option linter.unusedSimpArgs false
set_option linter.unusedVariables false
set_option maxRecDepth 20000
namespace Go.Proofs.Ytdohohafdplkiaa
open Go.RowKit
section
variable {α : Type} {K : α → List Value} {s : Nat}
/-- A slice that reads as a list. -/
structure SlR (K : α → List Value) (s : Nat) (w : World) (a : Option Addr) (l : List α) : Prop where
  out : l = [] ∨ ∃ g off, a = some ⟨g, off, none⟩ ∧ g < w.heap.size ∧ ∀ i d, l[i]? = some d → cellsN w g (off + i * s) s = some (K d).toArray
theorem SlR.nil (K : α → List Value) (s : Nat) (w : World) (a : Option Addr) : SlR K s w a [] := ⟨Or.inl rfl⟩
theorem SlR.pos {w : World} {a : Option Addr} {l : List α} (h : SlR K s w a l) (hn : 0 < l.length) : ∃ g off, a = some ⟨g, off, none⟩ ∧ g < w.heap.size ∧ ∀ i d, l[i]? = some d → cellsN w g (off + i * s) s = some (K d).toArray := by
  rcases h.out with rfl | h
  · simp at hn
  · exact h
theorem cellsN_same {w w' : World} {g : Nat} (k : w'.heap[g]? = w.heap[g]?) (o n : Nat) : cellsN w' g o n = cellsN w g o n := cellsN_congr fun j _ => by simp only [World.cell?, k]
theorem SlR.keep {w w' : World} {a : Option Addr} {l : List α} (h : SlR K s w a l) (hz : w.heap.size ≤ w'.heap.size) (k : ∀ g n c, (Value.slice a n c).ownBlock = some g → w'.heap[g]? = w.heap[g]?) : SlR K s w' a l := by
  rcases h.out with h | ⟨g, off, rfl, h2, h3⟩
  · exact ⟨Or.inl h⟩
  · exact ⟨Or.inr ⟨g, off, rfl, Nat.lt_of_lt_of_le h2 hz, fun i d hd => (cellsN_same (k g 0 0 rfl) _ _).trans (h3 i d hd)⟩⟩
theorem SlR.ex {w w' : World} {a : Option Addr} {l : List α} (h : SlR K s w a l) (k : Ex w w') : SlR K s w' a l := by
  rcases h.out with h | ⟨g, off, rfl, h2, h3⟩
  · exact ⟨Or.inl h⟩
  · exact ⟨Or.inr ⟨g, off, rfl, Nat.lt_of_lt_of_le h2 (ex_size k), fun i d hd => (cellsN_same ((ex_below k).block g h2) _ _).trans (h3 i d hd)⟩⟩
theorem SlR.take {w : World} {a : Option Addr} {l : List α} (h : SlR K s w a l) (k : Nat) : SlR K s w a (l.take k) := by
  rcases h.out with rfl | ⟨g, off, h1, h2, h3⟩
  · exact ⟨Or.inl (by simp)⟩
  · refine ⟨Or.inr ⟨g, off, h1, h2, fun i d hd => ?_⟩⟩
    rw [List.getElem?_take] at hd
    split at hd
    · exact h3 i d hd
    · cases hd
theorem SlR.drop {w : World} {g off : Nat} {l : List α} (h : SlR K s w (some ⟨g, off, none⟩) l) (k : Nat) : SlR K s w (some ⟨g, off + k * s, none⟩) (l.drop k) := by
  rcases h.out with rfl | ⟨g', off', h1, h2, h3⟩
  · exact ⟨Or.inl (by simp)⟩
  · cases h1
    refine ⟨Or.inr ⟨g, _, rfl, h2, fun i d hd => ?_⟩⟩
    rw [List.getElem?_drop] at hd
    rw [Nat.add_assoc, ← Nat.add_mul]
    exact h3 _ d hd
theorem SlR.at {w : World} {g off : Nat} {l : List α} (h : SlR K s w (some ⟨g, off, none⟩) l) {i : Nat} {d : α} (hd : l[i]? = some d) : cellsN w g (off + i * s) s = some (K d).toArray ∧ g < w.heap.size := by
  rcases h.out with rfl | ⟨g', off', h1, h2, h3⟩
  · simp at hd
  · cases h1; exact ⟨h3 i d hd, h2⟩
/-- An own row reads so. -/
theorem SlR.of_own (hK : ∀ a, (K a).length = s) (hs : 0 < s) {w : World} {Z : Nat} {t : TypeId} {a : Option Addr} {c : Nat} {l : List α} {n : Nat} (h : w.ownsRow Z t s (.slice a n c) l.length (l.flatMap K)) : SlR K s w a l := by
  rcases Nat.eq_zero_or_pos l.length with h0 | hpos
  · rw [List.eq_nil_of_length_eq_zero h0]; exact SlR.nil _ _ _ _
  · obtain ⟨g, cap, cur, hv, _⟩ := own_block h hpos hs
    obtain ⟨rfl, rfl, rfl⟩ : a = some ⟨g, 0, none⟩ ∧ n = l.length ∧ c = cap := by simpa using hv
    refine ⟨Or.inr ⟨g, 0, rfl, (h.lt g rfl).2, fun i d hd => ?_⟩⟩
    rw [Nat.zero_add]
    exact (own_at hK h hd).1
/-- What is laid behind a row. -/
theorem SlR.news (hK : ∀ a, (K a).length = s) (hs : 0 < s) {w : World} {ad : Addr} {r : List α} (h : SlR K s w (some ad) r) : ∀ (j : Nat) (u : Value), (r.flatMap K)[j]? = some u → w.cell? (ad.add j) = some u := by
  intro j u hj
  rcases h.out with rfl | ⟨g, off, hg, _, _⟩
  · simp at hj
  · obtain rfl : ad = ⟨g, off, none⟩ := Option.some.inj hg
    have hlt : j < r.length * s := by
      have := (List.getElem?_eq_some_iff.1 hj).1
      rwa [flat_len hK] at this
    have hadd : (⟨g, off, none⟩ : Addr).add j = ⟨g, off + j, none⟩ := by unfold Addr.add; split <;> simp_all
    have hq0 : j = j / s * s + j % s := by rw [Nat.mul_comm]; exact (Nat.div_add_mod j s).symm
    have hqs := Nat.mod_lt j hs
    have hql : j / s < r.length := (Nat.div_lt_iff_lt_mul hs).2 hlt
    generalize j / s = e at hq0 hql
    generalize j % s = q at hq0 hqs
    subst hq0
    have hi : r[e]? = some r[e] := List.getElem?_eq_getElem _
    have h1 := (h.at hi).1
    have h2 := flat_get hK r e _ q hi hqs
    have h3 := (cellsN_some.1 h1).2 q hqs
    rw [hadd, ← Nat.add_assoc, h3, List.getElem?_toArray, ← h2, hj]
/-- A slice, as a value. -/
structure SlV1 (K : α → List Value) (s : Nat) (w : World) (v : Value) (l : List α) : Prop where
  out : ∃ a c, v = .slice a l.length c ∧ l.length ≤ c ∧ c ≤ maxLen ∧ (a = none → c = 0) ∧ SlR K s w a l
theorem SlV1.ex {w w' : World} {v : Value} {l : List α} (h : SlV1 K s w v l) (k : Ex w w') : SlV1 K s w' v l := by
  obtain ⟨a, c, h1, h2, h3, h4, h5⟩ := h.out
  exact ⟨a, c, h1, h2, h3, h4, h5.ex k⟩
theorem SlV1.keep {w w' : World} {v : Value} {l : List α} (h : SlV1 K s w v l) (hz : w.heap.size ≤ w'.heap.size) (k : ∀ g, v.ownBlock = some g → w'.heap[g]? = w.heap[g]?) : SlV1 K s w' v l := by
  obtain ⟨a, c, rfl, h2, h3, h4, h5⟩ := h.out
  refine ⟨a, c, rfl, h2, h3, h4, h5.keep hz fun g n c' hg => k g ?_⟩
  cases a with
  | none => simp [Value.ownBlock] at hg
  | some ad => simpa [Value.ownBlock] using hg
theorem SlV1.lt {w : World} {v : Value} {l : List α} (h : SlV1 K s w v l) (hn : 0 < l.length) {g : Nat} (hg : v.ownBlock = some g) : g < w.heap.size := by
  obtain ⟨a, c, rfl, _, _, _, h5⟩ := h.out
  obtain ⟨g', off, rfl, hlt, _⟩ := h5.pos hn
  obtain rfl : g' = g := by simpa [Value.ownBlock] using hg
  exact hlt
theorem SlV1.nil (K : α → List Value) (s : Nat) (w : World) : SlV1 K s w (.slice none 0 0) [] := ⟨none, 0, rfl, by simp, by decide, fun _ => rfl, SlR.nil _ _ _ _⟩
theorem SlV1.of_own (hK : ∀ a, (K a).length = s) (hs : 0 < s) {w : World} {Z : Nat} {t : TypeId} {v : Value} {l : List α} (h : w.ownsRow Z t s v l.length (l.flatMap K)) : SlV1 K s w v l := by
  rcases h.2 with ⟨rfl, h0⟩ | ⟨g, cap, cur, rfl, h1, h2, h3, h4, h5, h6⟩
  · rw [List.eq_nil_of_length_eq_zero h0]; exact SlV1.nil _ _ _
  · exact ⟨_, cap, rfl, h3, h4, (fun h => by cases h), SlR.of_own hK hs h⟩
end
end Go.Proofs.Ytdohohafdplkiaa

/- copy of elements of more than one cell; make of such. Over whatever program. -/
set_option linter.unusedSimpArgs false
set_option linter.unusedVariables false
set_option maxRecDepth 20000
namespace Go.Proofs.Ytdohohafdplkiaa
open Go.RowKit
theorem run_copy_wide {P : Program} (w : World) (dT sT ty elem : TypeId) (b o dLen dCap s : Nat) (a : Addr) (sLen sCap : Nat) (cs : List Value)
    (hu : P.underlying dT = some (.slice elem)) (hs : (P.info? elem).map (·.size) = some s) (hn : cs.length = Nat.min sLen dLen * s)
    (hsrc : ∀ j v, cs[j]? = some v → w.cell? (a.add j) = some v) (hc : ∀ j, j < cs.length → (w.cell? ⟨b, o + j, none⟩).isSome = true) (hf : ∀ j, j < cs.length → w.frozen? ⟨b, o + j, none⟩ = false) (h1 : ∀ v ∈ cs, v.oneCell' = true) :
    (Builtin.copy_ #[dT, sT] ty #[.slice (some ⟨b, o, none⟩) dLen dCap, .slice (some a) sLen sCap]).run P w = .ok (goInt (Nat.min sLen dLen)) (w.setCells b o cs) := by
  have hl := run_loadCells_list (P := P) w a cs hsrc
  have hst := run_storeCells_cells (P := P) b o cs 0 w (by simpa using hc) (by simpa using hf) h1
  cases hq : P.info? elem with
  | none => simp [hq] at hs
  | some i =>
    have hi : i.size = s := by simpa [hq] using hs
    rw [hn] at hl
    simp [Builtin.copy_, run_underlying hu, Builtin.lenOf, Builtin.firstCells, sizeOf, typeInfo, hq, hi, hl, hst]
theorem copyRun_wide {P : Program} {dT sT elem : TypeId} {s : Nat} (hu : P.underlying dT = some (.slice elem)) (hs : (P.info? elem).map (·.size) = some s) (ty : TypeId) (b o b' o' n c n' c' : Nat) (w : World) :
    copyRun P #[dT, sT] ty (.slice (some ⟨b, o, none⟩) n c) (.slice (some ⟨b', o', none⟩) n' c') w =
      match cellsN w b' o' (min n' n * s) with
      | some cs => if ((cellsN w b o (min n' n * s)).isSome && !frozenN w b o (min n' n * s) && oneCells cs) = true then .ok (.value (.int .i64 (min n' n : Nat))) (w.setCells b o cs.toList)
        else copyRaw P #[dT, sT] ty (.slice (some ⟨b, o, none⟩) n c) (.slice (some ⟨b', o', none⟩) n' c') w
      | none => copyRaw P #[dT, sT] ty (.slice (some ⟨b, o, none⟩) n c) (.slice (some ⟨b', o', none⟩) n' c') w := by
  cases hc : cellsN w b' o' (min n' n * s) with
  | none => rfl
  | some cs =>
    simp only
    split
    · rename_i h
      simp only [Bool.and_eq_true, Bool.not_eq_true'] at h
      obtain ⟨⟨h1, h2⟩, h3⟩ := h
      obtain ⟨ds, hds⟩ := Option.isSome_iff_exists.1 h1
      obtain ⟨h4, h5⟩ := cellsN_some.1 hds
      obtain ⟨h6, h7⟩ := cellsN_some.1 hc
      have := run_copy_wide (P := P) w dT sT ty elem b o n c s ⟨b', o', none⟩ n' c' cs.toList hu hs (by rw [Array.length_toList, h6])
        (fun j v hv => by rw [Addr.add_mid]; exact cellsN_range hc j v hv)
        (fun j hj => by rw [Array.length_toList, h6] at hj; rw [h5 j hj, Array.getElem?_eq_getElem (by omega)]; rfl)
        (fun j hj => by rw [Array.length_toList, h6] at hj; exact frozenN_false.1 h2 j hj)
        (fun v hv => (Array.all_eq_true_iff_forall_mem.1 h3) v (by simpa using hv))
      unfold copyRun
      rw [this]; rfl
    · rfl
/-- n elements that are made. -/
theorem manyC_flat {α : Type} {K : α → List Value} {s : Nat} (hK : ∀ a, (K a).length = s) (hs : 0 < s) {z : Value} {a : α} (hz : z.cells.toList = K a) (n : Nat) : (manyC z (n * s)).toList = (List.replicate n a).flatMap K := by
  have hzs : z.cells.size = s := by rw [← Array.length_toList, hz, hK]
  apply List.ext_getElem?
  intro j
  by_cases hj : j < n * s
  · have hq0 : j = j / s * s + j % s := by rw [Nat.mul_comm]; exact (Nat.div_add_mod j s).symm
    have hqs := Nat.mod_lt j hs
    have hql : j / s < n := (Nat.div_lt_iff_lt_mul hs).2 hj
    have h1 := flat_get hK (List.replicate n a) (j / s) a (j % s) (by simp [hql]) hqs
    rw [← hq0] at h1
    rw [h1, ← hz, Array.getElem?_toList, Array.getElem?_toList]
    simp only [manyC, madeCells, Array.getElem?_map, Array.getElem?_range, if_pos hj, Option.map_some, hzs]
    rw [Array.getElem!_eq_getD, Array.getD_eq_getD_getElem?, Array.getElem?_eq_getElem (by rw [hzs]; exact hqs)]
    rfl
  · rw [List.getElem?_eq_none (by rw [Array.length_toList, manyC_size]; omega), List.getElem?_eq_none (by rw [flat_len hK, List.length_replicate]; omega)]
end Go.Proofs.Ytdohohafdplkiaa
