/- Digests and their texts, in plain Lean. -/
import Derived.Test.YtbebehcalephfaaDoorParse
import Derived.Test.YtbebehcalephfaaDoorEq
set_option linter.unusedSimpArgs false
set_option linter.unusedVariables false
set_option maxRecDepth 20000
namespace Go.Proofs.YtbebehcalephfaaDoor
open Go.RowKit
theorem textK_get (f : Nat → UInt8) : ∀ (k j : Nat), j < k → (textK f k)[2 * j]? = some (dig ((f j).toNat / 16)) ∧ (textK f k)[2 * j + 1]? = some (dig ((f j).toNat % 16))
  | 0, j, h => by omega
  | k + 1, j, h => by
    unfold textK
    by_cases hj : j < k
    · obtain ⟨h1, h2⟩ := textK_get f k j hj
      have hl := textK_len f k
      rw [List.getElem?_append_left (by omega), List.getElem?_append_left (by omega)]
      exact ⟨h1, h2⟩
    · obtain rfl : j = k := by omega
      have hl := textK_len f j
      rw [List.getElem?_append_right (by omega), List.getElem?_append_right (by omega), hl, Nat.sub_self, show 2 * j + 1 - 2 * j = 1 by omega]
      exact ⟨rfl, rfl⟩
def textS (f : Nat → UInt8) : ByteArray := ⟨(textK f 32).toArray⟩
theorem textS_size (f : Nat → UInt8) : (textS f).size = 64 := by
  show (textK f 32).toArray.size = 64
  simp [textK_len]
theorem sb_text (f : Nat → UInt8) (j : Nat) (hj : j < 32) : sb (textS f) (2 * j) = dig ((f j).toNat / 16) ∧ sb (textS f) (2 * j + 1) = dig ((f j).toNat % 16) := by
  obtain ⟨h1, h2⟩ := textK_get f 32 j hj
  unfold sb textS
  simp only [Array.getD_eq_getD_getElem?, List.getElem?_toArray, h1, h2, Option.getD_some, and_self]
theorem dI_text (f : Nat → UInt8) (j : Nat) (hj : j < 32) : dI (textS f) (2 * j) = ((f j).toNat / 16 : Nat) ∧ dI (textS f) (2 * j + 1) = ((f j).toNat % 16 : Nat) := by
  have hb := (f j).toNat_lt
  obtain ⟨h1, h2⟩ := sb_text f j hj
  unfold dI
  rw [h1, h2]
  exact ⟨digitI_dig _ (by omega), digitI_dig _ (by omega)⟩
theorem okS_text (f : Nat → UInt8) : okS (textS f) := by
  refine ⟨textS_size f, fun i hi => ?_⟩
  obtain ⟨h1, h2⟩ := dI_text f (i / 2) (by omega)
  by_cases he : i % 2 = 0
  · rw [show 2 * (i / 2) = i by omega] at h1; rw [h1]; omega
  · rw [show 2 * (i / 2) + 1 = i by omega] at h2; rw [h2]; omega
theorem parF_text (f : Nat → UInt8) (j : Nat) (hj : j < 32) : parF (textS f) j = f j := by
  have hb := (f j).toNat_lt
  obtain ⟨h1, h2⟩ := dI_text f j hj
  unfold parF
  rw [h1, h2]
  apply UInt8.toNat_inj.1
  rw [UInt8.toNat_ofNat_of_lt' (by show _ < 256; simp; omega)]
  simp; omega
theorem dig_digitI (x : UInt8) (h : 0 ≤ digitI (bn x)) : dig (digitI (bn x)).toNat = x := by
  have := (by decide +kernel : ∀ n : Fin 256, 0 ≤ digitI (n.val : Int) → dig (digitI (n.val : Int)).toNat = UInt8.ofFin n) x.toFin h
  exact this
theorem text_parF (s : ByteArray) (h : okS s) : textS (parF s) = s := by
  obtain ⟨h1, h2⟩ := h
  have hs : s.data.size = 64 := h1
  have : (textK (parF s) 32) = s.data.toList := by
    apply List.ext_getElem?
    intro i
    by_cases hi : i < 64
    · obtain ⟨e1, e2⟩ := textK_get (parF s) 32 (i / 2) (by omega)
      have l1 := dI_lt s (2 * (i / 2)); have l2 := dI_lt s (2 * (i / 2) + 1)
      have p1 := h2 (2 * (i / 2)) (by omega); have p2 := h2 (2 * (i / 2) + 1) (by omega)
      have hp : (parF s (i / 2)).toNat = 16 * (dI s (2 * (i / 2))).toNat + (dI s (2 * (i / 2) + 1)).toNat := by
        unfold parF; rw [UInt8.toNat_ofNat_of_lt' (by show _ < 256; omega)]
      have q1 : (parF s (i / 2)).toNat / 16 = (dI s (2 * (i / 2))).toNat := by omega
      have q2 : (parF s (i / 2)).toNat % 16 = (dI s (2 * (i / 2) + 1)).toNat := by omega
      rw [q1, dI, dig_digitI _ p1] at e1
      rw [q2, dI, dig_digitI _ p2] at e2
      have hsb : s.data.toList[i]? = some (sb s i) := by
        rw [Array.getElem?_toList]
        unfold sb
        rw [Array.getD_eq_getD_getElem?, Array.getElem?_eq_getElem (by omega)]; rfl
      rw [hsb]
      by_cases he : i % 2 = 0
      · rw [show 2 * (i / 2) = i by omega] at e1; exact e1
      · rw [show 2 * (i / 2) + 1 = i by omega] at e2; exact e2
    · rw [List.getElem?_eq_none (by rw [textK_len]; omega), List.getElem?_eq_none (by simp; omega)]
  unfold textS
  rw [this]
/-! ### The order -/
theorem ltN_irrefl (f : Nat → UInt8) (n : Nat) : ltN f f n = false := ltN_eq fun _ _ => rfl
theorem eq_or_first : ∀ (n : Nat) (f g : Nat → UInt8), (∀ i, i < n → f i = g i) ∨ ∃ k, k < n ∧ (∀ i, i < k → f i = g i) ∧ f k ≠ g k
  | 0, f, g => Or.inl fun i hi => by omega
  | n + 1, f, g => by
    rcases eq_or_first n f g with h | ⟨k, h1, h2, h3⟩
    · by_cases hn : f n = g n
      · left; intro i hi
        by_cases hin : i = n
        · rw [hin, hn]
        · exact h i (by omega)
      · exact Or.inr ⟨n, by omega, h, hn⟩
    · exact Or.inr ⟨k, by omega, h2, h3⟩
/-- One stands lower, or both are one. -/
theorem trich (f g : Nat → UInt8) (n : Nat) : (eqF f g n = true ∧ ltN f g n = false ∧ ltN g f n = false) ∨ (eqF f g n = false ∧ ltN f g n = true ∧ ltN g f n = false) ∨ (eqF f g n = false ∧ ltN f g n = false ∧ ltN g f n = true) := by
  rcases eq_or_first n f g with h | ⟨k, h1, h2, h3⟩
  · exact Or.inl ⟨eqF_true.2 h, ltN_eq h, ltN_eq fun i hi => (h i hi).symm⟩
  · have e1 := ltN_at h1 h2 h3
    have e2 := ltN_at h1 (fun i hi => (h2 i hi).symm) (Ne.symm h3)
    have e3 : eqF f g n = false := by
      rw [← Bool.not_eq_true, eqF_true]; exact fun h => h3 (h k h1)
    right
    rcases UInt8.lt_or_lt_of_ne h3 with h | h
    · exact Or.inl ⟨e3, by rw [e1, decide_eq_true h], by rw [e2, decide_eq_false (UInt8.lt_asymm h)]⟩
    · exact Or.inr ⟨e3, by rw [e1, decide_eq_false (UInt8.lt_asymm h)], by rw [e2, decide_eq_true h]⟩
end Go.Proofs.YtbebehcalephfaaDoor
