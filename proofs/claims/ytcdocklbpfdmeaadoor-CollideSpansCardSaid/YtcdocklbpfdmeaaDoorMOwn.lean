import Derived.Test.YtcdocklbpfdmeaaDoorMEq
import Derived.Lib.Hide

/- Rows of the call's own whose elements are turned in place. Over whatever program. -/
set_option linter.unusedSimpArgs false
set_option linter.unusedVariables false
set_option maxRecDepth 20000
namespace Go.Proofs.YtcdocklbpfdmeaaDoor
open Go.RowKit
section
variable {P : Program} {α : Type} {K : α → List Value} {s : Nat}
theorem flat_len (hK : ∀ a, (K a).length = s) : ∀ l : List α, (l.flatMap K).length = l.length * s
  | [] => by simp
  | a :: l => by rw [List.flatMap_cons, List.length_append, flat_len hK l, hK, List.length_cons, Nat.succ_mul, Nat.add_comm]
theorem flat_get (hK : ∀ a, (K a).length = s) : ∀ (l : List α) (i : Nat) (a : α) (j : Nat), l[i]? = some a → j < s → (l.flatMap K)[i * s + j]? = (K a)[j]?
  | [], i, a, j, h, _ => by simp at h
  | b :: l, 0, a, j, h, hj => by
    have : b = a := by simpa using h
    subst this
    rw [List.flatMap_cons, Nat.zero_mul, Nat.zero_add, List.getElem?_append_left (by rw [hK]; exact hj)]
  | b :: l, i + 1, a, j, h, hj => by
    have h2 : l[i]? = some a := by simpa using h
    rw [List.flatMap_cons, List.getElem?_append_right (by rw [hK, Nat.succ_mul]; omega), hK, Nat.succ_mul, show i * s + s + j - s = i * s + j by omega]
    exact flat_get hK l i a j h2 hj
theorem setCells_heap (b : Nat) : ∀ (vs : List Value) (o : Nat) (w : World) (k : Nat), k ≠ b → (w.setCells b o vs).heap[k]? = w.heap[k]?
  | [], _, _, _, _ => rfl
  | v :: r, o, w, k, h => by
    unfold World.setCells
    rw [setCells_heap b r (o + 1) _ k h]
    simp only [World.setCell, Array.getElem?_modify]
    rw [if_neg (by simpa using Ne.symm h)]
theorem setCells_block (b : Nat) (t : TypeId) (fr : Nat × Nat) : ∀ (vs : List Value) (o : Nat) (w : World) (c : Array Value), w.heap[b]? = some (.cells c t fr) → (w.setCells b o vs).heap[b]? = some (.cells (spliceA c o vs) t fr)
  | [], _, _, _, h => h
  | v :: r, o, w, c, h => by
    unfold World.setCells
    rw [setCells_block b t fr r (o + 1) _ (c.setIfInBounds o v) (by simp [World.setCell, Array.getElem?_modify, h])]
    rfl
theorem setCells_below {Z b : Nat} (hb : Z ≤ b) : ∀ (vs : List Value) (o : Nat) (w : World), Below Z w (w.setCells b o vs)
  | [], _, w => Below.refl Z w
  | v :: r, o, w => by
    unfold World.setCells
    exact ((Below.refl Z w).setCell (p := ⟨b, o, none⟩) hb v).trans (setCells_below hb r (o + 1) _)
/-- The row lies in one block. -/
theorem own_block {w : World} {Z : Nat} {t : TypeId} {v : Value} {n : Nat} {xs : List Value} (h : w.ownsRow Z t s v n xs) (hn : 0 < n) (hs : 0 < s) :
    ∃ g cap cur, v = .slice (some ⟨g, 0, none⟩) n cap ∧ Z ≤ g ∧ w.heap[g]? = some (.cells cur t (0, 0)) ∧ n ≤ cap ∧ cap ≤ maxLen ∧ cur.size = cap * s ∧ cur.toList.take (n * s) = xs := by
  rcases h.2 with ⟨_, h0⟩ | ⟨g, cap, cur, h⟩
  · omega
  · exact ⟨g, cap, cur, h⟩
theorem own_at (hK : ∀ a, (K a).length = s) {w : World} {Z g n cap : Nat} {t : TypeId} {l : List α} (h : w.ownsRow Z t s (.slice (some ⟨g, 0, none⟩) n cap) n (l.flatMap K)) {i : Nat} {a : α} (hi : l[i]? = some a) :
    cellsN w g (i * s) s = some (K a).toArray ∧ frozenN w g (i * s) s = false ∧ Z ≤ g ∧ g < w.heap.size := by
  have hlt := h.lt g rfl
  refine ⟨cellsN_some.2 ⟨by simp [hK], fun j hj => ?_⟩, frozenN_false.2 fun j hj => ?_, hlt⟩
  · have h1 := flat_get hK l i a j hi hj
    rw [List.getElem?_toArray]
    have h2 : (K a)[j]? = some ((K a)[j]'(by rw [hK]; exact hj)) := List.getElem?_eq_getElem _
    rw [h2] at h1 ⊢
    have := h.cells (g := g) rfl _ _ h1
    have hadd : (⟨g, 0, none⟩ : Addr).add (i * s + j) = ⟨g, i * s + j, none⟩ := by unfold Addr.add; split <;> simp_all
    rwa [hadd] at this
  · rcases h.2 with ⟨hv, _⟩ | ⟨g', cap', cur, hv, _, hb, _⟩
    · cases hv
    · cases hv
      simp [World.frozen?, hb]
@[go_sem] theorem setCells_isSome (w : World) (b o : Nat) (vs : List Value) (b' o' n : Nat) : (cellsN (w.setCells b o vs) b' o' n).isSome = (cellsN w b' o' n).isSome := by
  have hc : ∀ (vs : List Value) (o : Nat) (w : World) (a : Addr), ((w.setCells b o vs).cell? a).isSome = (w.cell? a).isSome := by
    intro vs
    induction vs with
    | nil => intro o w a; rfl
    | cons v r ih =>
      intro o w a
      unfold World.setCells
      rw [ih]
      obtain ⟨ab, ao, asp⟩ := a
      simp only [World.cell?, World.setCell, Array.getElem?_modify]
      by_cases h : b = ab
      · subst h
        cases hb : w.heap[b]? with
        | none => simp
        | some ob =>
          cases ob with
          | cells c t fr =>
            cases asp with
            | some q => simp
            | none =>
              simp only [if_true, Option.map_some, Option.isSome_none, Bool.false_eq_true, if_false, Array.getElem?_setIfInBounds]
              by_cases h2 : o = ao
              · subst h2
                by_cases h3 : o < c.size
                · simp [h3]
                · simp [h3]
              · simp [h2]
          | _ => simp
      · rw [if_neg h]
  unfold cellsN
  simp only [hc]
  split <;> rfl
@[go_sem] theorem setCells_frozenN (w : World) (b o : Nat) (vs : List Value) (b' o' n : Nat) : frozenN (w.setCells b o vs) b' o' n = frozenN w b' o' n := by
  have hc : ∀ (vs : List Value) (o : Nat) (w : World) (a : Addr), (w.setCells b o vs).frozen? a = w.frozen? a := by
    intro vs
    induction vs with
    | nil => intro o w a; rfl
    | cons v r ih =>
      intro o w a
      unfold World.setCells
      rw [ih]
      obtain ⟨ab, ao, asp⟩ := a
      simp only [World.frozen?, World.setCell, Array.getElem?_modify]
      by_cases h : b = ab
      · subst h
        cases hb : w.heap[b]? with
        | none => simp
        | some ob => cases ob <;> simp
      · rw [if_neg h]
  unfold frozenN
  simp only [hc]
/-! ### Backwards -/
end
end Go.Proofs.YtcdocklbpfdmeaaDoor
