import Derived.Test.YtpcfkjeikhehaaaDoorMDg
import Derived.Test.YtpcfkjeikhehaaaDoorMOpen
import Derived.Lib.AppendZeros

/- slices.Concat of rows of bytes. -/
set_option linter.unusedSimpArgs false
set_option linter.unusedVariables false
set_option maxRecDepth 20000
namespace Go.Proofs.YtpcfkjeikhehaaaDoor
open Go.RowKit
theorem grow_nil (n : Nat) (w : World) (hn : n ≤ 140737488355328) :
    Calls Tryd.prog 80 #[.slice none 0 0, I n] w fun e w' => ∃ v, e = .returned v ∧ w'.ownsRow w.heap.size 5 1 v 0 [] ∧ Ex w w' := by
  obtain ⟨i, hi, h1', h2', h3'⟩ := info_parts appu8.hi
  rcases Nat.eq_zero_or_pos n with h0 | hpos
  · subst h0
    go_enter Tryd.func80, Tryd.ntmps80
    go_wp2
    go_ret
    exact ⟨_, rfl, owns_nil _ _ _ _, (by (try show Ex _ _); repeat (first | (with_reducible exact ex_refl _) | (with_reducible assumption) | (with_reducible refine ex_drewL ?_) | (with_reducible refine ex_appR ?_ _) | (with_reducible refine ex_wx ?_ _) | (with_reducible refine ex_drew ?_) | (with_reducible refine ex_alloc ?_ _)))⟩
  · have hr := Lib.run_append_nil_zeros w 27 3 27 5 i (.int .u8 0) .i64 .i64 appu8.ht Tryd.underlying3 hi h1' n hpos (by omega) (by omega) (by rw [h3']; omega)
    have HR := Lib.hid hr
    clear hr
    have e1 : (0 : Int) < n := by omega
    go_enter Tryd.func80, Tryd.ntmps80
    go_wp2_with (at_builtin; refine Lib.wpList_append_run _ rfl _ _ _ _ rfl _ _ rfl rfl _ _ HR.out ?_)
    go_ret
    refine ⟨_, rfl, ?_, (by (try show Ex _ _); repeat (first | (with_reducible exact ex_refl _) | (with_reducible assumption) | (with_reducible refine ex_drewL ?_) | (with_reducible refine ex_appR ?_ _) | (with_reducible refine ex_wx ?_ _) | (with_reducible refine ex_drew ?_) | (with_reducible refine ex_alloc ?_ _)))⟩
    have h1 := grownCap_ge w n 0 5
    refine owns_drew (owns_new (xs := []) rfl (Nat.le_refl _) (Nat.zero_le _) (grownCap_le_maxLen w n 0 5 (by unfold maxLen; omega)) ?_ (by simp))
    rw [Array.size_append]
    have := manyC_size (.int .u8 0)
    unfold manyC madeCells at this
    simp [Builtin.zeroCells]
    omega
def catL (L : Nat → List UInt8) (n : Nat) : List UInt8 := (List.range n).flatMap L
theorem catL_succ (L : Nat → List UInt8) (n : Nat) : catL L (n + 1) = catL L n ++ L n := by
  unfold catL; rw [List.range_succ, List.flatMap_append]; simp
/-- **Concat**, a row of its own. -/
theorem concat_own (a : Option Addr) (n c : Nat) (V : Nat → Value) (L : Nat → List UInt8) (w : World) (hn : n ≤ c) (hc : c ≤ maxLen) (hs : SlV w a n V) (hV : ∀ i, i < n → SlS w (V i) (L i)) (hlen : ∀ k, k ≤ n → (catL L k).length ≤ 140737488355328) :
    Calls Tryd.prog 54 #[.slice a n c] w fun e w' => ∃ v, e = .returned v ∧ w'.ownsRow w.heap.size 5 1 v (catL L n).length (Lib.byteCells (catL L n)) ∧ Ex w w' := by
  unfold maxLen at hc
  have HV : Hid (∀ i, i < n → SlS w (V i) (L i)) := Lib.hid hV
  have HL : Hid (∀ k, k ≤ n → (catL L k).length ≤ 140737488355328) := Lib.hid hlen
  clear hV hlen
  go_enter Tryd.func54, Tryd.ntmps54
  go_wp2
  go_loopw [3, 11] (fun s i wr => ∃ k : Nat, k ≤ n ∧ s = I (catL L k).length ∧ i = I k ∧ wr = w) (fun _ i _ => n - (intOf i).toNat)
  case atStart => exact ⟨0, by omega, rfl, rfl, rfl⟩
  case round =>
    obtain ⟨k, hk, rfl, rfl, rfl⟩ := hrel
    by_cases hlt : k < n
    · obtain ⟨g, off, rfl, hg, hcell⟩ := hs.pos (by omega)
      have h1 := hcell k hlt
      obtain ⟨ad, c2, hv, _⟩ := (HV.out k hlt).out
      rw [hv] at h1
      clear hcell hv
      have hl1 := HL.out (k + 1) (by omega)
      rw [catL_succ, List.length_append] at hl1
      have hneg : ¬ ((catL L k).length : Int) + (L k).length < 0 := by omega
      go_wp2
      refine ⟨⟨k + 1, by omega, ?_, by go_num, by trivial⟩, by simp [intOf]; omega⟩
      rw [catL_succ, List.length_append]; go_num
    · obtain rfl : k = n := by omega
      have hl1 := HL.out k (by omega)
      clear hlt hk
      go_wp2_with (go_at_call 80; refine (grow_nil _ _ hl1).mono ?_; rintro e w' ⟨v, rfl, hown, X, rfl⟩)
      go_loopw [6, 27] (fun v i W2 => ∃ q : Nat, q ≤ k ∧ i = I q ∧ W2.ownsRow wr.heap.size 5 1 v (catL L q).length (Lib.byteCells (catL L q)) ∧ Ex wr W2) (fun _ i _ => k - (intOf i).toNat)
      case atStart => exact ⟨0, by omega, rfl, hown, (by (try show Ex _ _); repeat (first | (with_reducible exact ex_refl _) | (with_reducible assumption) | (with_reducible refine ex_drewL ?_) | (with_reducible refine ex_appR ?_ _) | (with_reducible refine ex_wx ?_ _) | (with_reducible refine ex_drew ?_) | (with_reducible refine ex_alloc ?_ _)))⟩
      case round =>
        obtain ⟨q, hq, rfl, hown, X2, rfl⟩ := hrel
        by_cases hlt : q < k
        · obtain ⟨g, off, rfl, hg, hcell⟩ := hs.pos (by omega)
          have h1 := hcell q hlt
          obtain ⟨ad, c2, hv, k1, k2, k3⟩ := (HV.out q hlt).out
          rw [hv] at h1
          clear hcell hv
          have hl2 := HL.out (q + 1) (by omega)
          rw [catL_succ, List.length_append] at hl2
          have HNEWS := Lib.hid (sll_news k3 (w' := wx wr X2) ⟨X2, rfl⟩)
          go_wp2_with (at_builtin; refine wpApp appu8 _ _ rfl rfl hown rfl ad (L q).length c2 (Lib.byteCells (L q)) rfl (by rw [bytes_len, Nat.mul_one]) HNEWS.out (bytes_one _) (by unfold maxLen; omega) (by omega) (by simp [go_sem]) (fun v' w1 hown2 hbe => ?_))
          refine ⟨⟨q + 1, by omega, by go_num, ?_, ex_of_below ((ex_below (by (try show Ex _ _); repeat (first | (with_reducible exact ex_refl _) | (with_reducible assumption) | (with_reducible refine ex_drewL ?_) | (with_reducible refine ex_appR ?_ _) | (with_reducible refine ex_wx ?_ _) | (with_reducible refine ex_drew ?_) | (with_reducible refine ex_alloc ?_ _)))).trans hbe)⟩, by simp [intOf]; omega⟩
          rw [catL_succ, List.length_append, ← bytes_app]
          exact hown2
        · obtain rfl : q = k := by omega
          clear hlt hq
          go_wp2
          go_ret
          exact ⟨_, rfl, hown, (by (try show Ex _ _); repeat (first | (with_reducible exact ex_refl _) | (with_reducible assumption) | (with_reducible refine ex_drewL ?_) | (with_reducible refine ex_appR ?_ _) | (with_reducible refine ex_wx ?_ _) | (with_reducible refine ex_drew ?_) | (with_reducible refine ex_alloc ?_ _)))⟩
/-- **Concat.** -/
theorem concat_any (a : Option Addr) (n c : Nat) (V : Nat → Value) (L : Nat → List UInt8) (w : World) (hn : n ≤ c) (hc : c ≤ maxLen) (hs : SlV w a n V) (hV : ∀ i, i < n → SlS w (V i) (L i)) (hlen : ∀ k, k ≤ n → (catL L k).length ≤ 140737488355328) :
    Calls Tryd.prog 54 #[.slice a n c] w (PostT w (catL L n)) :=
  (concat_own a n c V L w hn hc hs hV hlen).mono fun e w' ⟨v, h1, h2, h3⟩ => ⟨v, h1, owns_slt h2, h3⟩
def at3 {α : Type} (x y z : α) (i : Nat) : α := if i = 0 then x else if i = 1 then y else z
theorem cat3 (x y z : List UInt8) : catL (at3 x y z) 3 = x ++ (y ++ z) := by
  rw [catL_succ, catL_succ, catL_succ]; simp [catL, at3]
theorem concat3 {W W2 : World} {g : Nat} {t : TypeId} {v0 v1 v2 : Value} {x y z : List UInt8} (k : Ex (W.alloc (.cells #[v0, v1, v2] t)) W2) (hg : g = W.heap.size) (h0 : SlS W2 v0 x) (h1 : SlS W2 v1 y) (h2 : SlS W2 v2 z) (hl : x.length + (y.length + z.length) ≤ 140737488355328) :
    Calls Tryd.prog 54 #[.slice (some ⟨g, 0, none⟩) 3 3] W2 (PostT W2 (x ++ (y ++ z))) := by
  subst hg
  rw [← cat3]
  have hb := ex_block k (heap_alloc_new W (.cells #[v0, v1, v2] t))
  refine concat_any _ 3 3 (at3 v0 v1 v2) (at3 x y z) _ (by omega) (by decide) ⟨Or.inr ⟨_, 0, rfl, (Array.getElem?_eq_some_iff.1 hb).1, fun i hi => ?_⟩⟩ (fun i hi => ?_) (fun q hq => ?_)
  · rw [Nat.zero_add, cell_of_row _ W.heap.size i _ _ _ hb]
    have : i = 0 ∨ i = 1 ∨ i = 2 := by omega
    rcases this with rfl | rfl | rfl <;> rfl
  · have : i = 0 ∨ i = 1 ∨ i = 2 := by omega
    rcases this with rfl | rfl | rfl
    · exact h0
    · exact h1
    · exact h2
  · have : q = 0 ∨ q = 1 ∨ q = 2 ∨ q = 3 := by omega
    rcases this with rfl | rfl | rfl | rfl <;> simp [catL, at3, List.range_succ] <;> omega
end Go.Proofs.YtpcfkjeikhehaaaDoor
