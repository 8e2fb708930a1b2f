import Derived.Test.YtdohohafdplkiaaMDkH
import Derived.Lib.LazyBuf

/- Small ones: the clone of a row of bools, whether a row of numbers holds one. -/
set_option linter.unusedSimpArgs false
set_option linter.unusedVariables false
set_option maxRecDepth 20000
namespace Go.Proofs.Ytdohohafdplkiaa
open Go.RowKit
theorem own_emptyBo {w w' : World} {g : Nat} (k : Ex (w.alloc (.cells #[] 4)) w') (hg : g = w.heap.size) : w'.ownsRow w.heap.size 4 1 (.slice (some ⟨g, 0, none⟩) 0 0) 0 (([] : List Bool).flatMap KBo) := by
  subst hg
  exact owns_ex (owns_new (n := 0) (cap := 0) rfl (Nat.le_refl _) (by omega) (by decide) (by simp) (by simp)) k
set_option maxHeartbeats 1000000 in
theorem cloneBo_any (l : List Bool) (v : Value) (w : World) (hs : SlV1 KBo 1 w v l) (hl : l.length ≤ 1000000) :
    Calls Try.prog 32 #[v] w fun e w' => ∃ v', e = .returned v' ∧ OwnBo w' w.heap.size v' l ∧ Ex w w' := by
  obtain ⟨a, c, rfl, h1, h2, h3, h4⟩ := id hs.out
  have HS := Lib.hid h4
  unfold OwnBo
  clear hs h4
  cases a with
  | none =>
    obtain rfl := h3 rfl
    obtain rfl : l = [] := List.eq_nil_of_length_eq_zero (by omega)
    rw [List.length_nil]
    go_enter Try.func32, Try.ntmps32
    go_wp2
    go_ret
    exact ⟨_, rfl, owns_nil _ _ _ _, (by (try show Ex _ _); repeat (first | (with_reducible exact ex_refl _) | (with_reducible assumption) | (with_reducible refine ex_drewL ?_) | (with_reducible refine ex_appR ?_ _) | (with_reducible refine ex_wx ?_ _) | (with_reducible refine ex_drew ?_) | (with_reducible refine ex_alloc ?_ _)))⟩
  | some ad =>
    clear h3
    have hl1 : 0 + l.length ≤ maxLen := by unfold maxLen; omega
    have hl2 : (0 + l.length) * 1 ≤ 140737488355328 := by omega
    have hne : ∀ u ∈ l.flatMap KBo, u.oneCell' = true := KBo_one l
    have hfl : (l.flatMap KBo).length = l.length * 1 := flat_len KBo_len l
    go_enter Try.func32, Try.ntmps32
    go_wp2_with (at_builtin; refine wpApd (v := .slice (some ⟨w.heap.size, 0, none⟩) 0 0) (n := 0) (xs := ([] : List Bool).flatMap KBo) (B := w.heap.size) appBo _ _ rfl rfl (own_emptyBo (by (try show Ex _ _); repeat (first | (with_reducible exact ex_refl _) | (with_reducible assumption) | (with_reducible refine ex_drewL ?_) | (with_reducible refine ex_appR ?_ _) | (with_reducible refine ex_wx ?_ _) | (with_reducible refine ex_drew ?_) | (with_reducible refine ex_alloc ?_ _))) rfl) rfl ad l.length c (l.flatMap KBo) rfl hfl (SlR.news KBo_len (by omega) (HS.out.ex (by (try show Ex _ _); repeat (first | (with_reducible exact ex_refl _) | (with_reducible assumption) | (with_reducible refine ex_drewL ?_) | (with_reducible refine ex_appR ?_ _) | (with_reducible refine ex_wx ?_ _) | (with_reducible refine ex_drew ?_) | (with_reducible refine ex_alloc ?_ _))))) hne hl1 hl2 (ex_size (by (try show Ex _ _); repeat (first | (with_reducible exact ex_refl _) | (with_reducible assumption) | (with_reducible refine ex_drewL ?_) | (with_reducible refine ex_appR ?_ _) | (with_reducible refine ex_wx ?_ _) | (with_reducible refine ex_drew ?_) | (with_reducible refine ex_alloc ?_ _)))) (fun v1 w1 hown hA => ?_))
    go_ret
    rw [Nat.zero_add] at hown
    refine ⟨v1, rfl, by simpa using hown, ex_of_below ((ex_below (by (try show Ex _ _); repeat (first | (with_reducible exact ex_refl _) | (with_reducible assumption) | (with_reducible refine ex_drewL ?_) | (with_reducible refine ex_appR ?_ _) | (with_reducible refine ex_wx ?_ _) | (with_reducible refine ex_drew ?_) | (with_reducible refine ex_alloc ?_ _)))).trans (hA.below (ex_size (by (try show Ex _ _); repeat (first | (with_reducible exact ex_refl _) | (with_reducible assumption) | (with_reducible refine ex_drewL ?_) | (with_reducible refine ex_appR ?_ _) | (with_reducible refine ex_wx ?_ _) | (with_reducible refine ex_drew ?_) | (with_reducible refine ex_alloc ?_ _)))) fun g hg => ?_))⟩
    obtain rfl : w.heap.size = g := Option.some.inj hg
    exact Nat.le_refl _
theorem SlR.int {w : World} {a : Option Addr} {l : List Int} (h : SlR KZ 1 w a l) {k : Nat} (hk : k < l.length) : ∃ g off, a = some ⟨g, off, none⟩ ∧ g < w.heap.size ∧ w.cell? ⟨g, off + k, none⟩ = some (I l[k]) := by
  obtain ⟨g, off, h1, h2, h3⟩ := h.pos (by omega)
  refine ⟨g, off, h1, h2, ?_⟩
  have := (cellsN_some.1 (h3 k _ (List.getElem?_eq_getElem hk))).2 0 (by omega)
  rw [Nat.mul_one, Nat.add_zero] at this
  rw [this]; rfl
set_option maxHeartbeats 1000000 in
theorem index_any (l : List Int) (v : Value) (x : Int) (w : World) (hs : SlV1 KZ 1 w v l) :
    Calls Try.prog 53 #[v, I x] w fun e w' => ∃ r : Int, e = .returned (I r) ∧ -1 ≤ r ∧ r ≤ l.length ∧ (0 ≤ r ↔ x ∈ l) ∧ Ex w w' := by
  obtain ⟨a, c, rfl, h1, h2, h3, h4⟩ := hs.out
  have HR := Lib.hid h4
  unfold maxLen at h2
  clear hs h4 h3
  obtain ⟨m, hm⟩ : ∃ m, l.length = m := ⟨_, rfl⟩
  have HM := Lib.hid hm
  rw [hm] at h1 ⊢
  clear hm
  go_enter Try.func53, Try.ntmps53
  go_wp2
  go_loopw [8] (fun i W => ∃ k : Nat, k ≤ m ∧ i = I k ∧ W = w ∧ Hid (∀ j (hj : j < l.length), j < k → l[j] ≠ x)) (fun i _ => m - (intOf i).toNat)
  case atStart => exact ⟨0, by omega, rfl, rfl, Lib.hid fun j hj h0 => by omega⟩
  case round =>
    obtain ⟨k, hk, rfl, rfl, hO⟩ := hrel
    by_cases hlt : k < m
    · have hkl : k < l.length := by rw [HM.out]; exact hlt
      obtain ⟨g, off, rfl, hg, hc⟩ := HR.out.int hkl
      have hlt2 : (k : Int) < m := by omega
      obtain ⟨y, hy⟩ : ∃ y, l[k] = y := ⟨_, rfl⟩
      have HY := Lib.hid hy
      rw [hy] at hc
      clear hy
      by_cases hxy : x = y
      · subst hxy
        go_wp2
        go_ret
        exact ⟨k, rfl, by omega, by have := HM.out; omega, by have := HY.out ▸ List.getElem_mem hkl; simp [this], ex_refl _⟩
      · go_wp2
        refine ⟨⟨k + 1, by omega, by go_num, trivial, Lib.hid fun j hj hjk => ?_⟩, by simp [intOf]; omega⟩
        by_cases hjk2 : j < k
        · exact hO.out j hj hjk2
        · obtain rfl : j = k := by omega
          intro h
          exact hxy (h.symm.trans HY.out)
    · obtain rfl : k = m := by omega
      go_wp2
      go_ret
      refine ⟨-1, rfl, by omega, by have := HM.out; omega, ?_, ex_refl _⟩
      refine ⟨fun h => by omega, fun hm => ?_⟩
      obtain ⟨j, hj, he⟩ := List.getElem_of_mem hm
      exact absurd he (hO.out j hj (by have := HM.out; omega))
theorem contains_any (l : List Int) (v : Value) (x : Int) (w : World) (hs : SlV1 KZ 1 w v l) :
    Calls Try.prog 33 #[v, I x] w (Post w (.bool (decide (x ∈ l)))) := by
  go_enter Try.func33, Try.ntmps33
  go_wp2_with (go_at_call 53; (with_reducible refine (index_any l v x _ hs).mono ?_); rintro e w2 ⟨r, rfl, hr1, hr2, hr3, k2⟩)
  go_ret
  exact post_mk' (by simp [← hr3]) k2
end Go.Proofs.Ytdohohafdplkiaa
