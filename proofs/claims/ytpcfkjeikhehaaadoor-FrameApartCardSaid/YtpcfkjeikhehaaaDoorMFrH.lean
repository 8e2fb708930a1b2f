import Derived.Test.YtpcfkjeikhehaaaDoorMFrK

/- Which messages may be: Check. -/
set_option linter.unusedSimpArgs false
set_option linter.unusedVariables false
set_option maxRecDepth 20000
namespace Go.Proofs.YtpcfkjeikhehaaaDoor
open Go.RowKit
def okN (n : Int) : Bool := decide (1 ≤ n) && decide (n ≤ 255)
set_option maxHeartbeats 1000000 in
theorem indexFunc_any (l : List Int) (v : Value) (w : World) (hs : SlZ w v l) :
    Calls Tryd.prog 61 #[v, .func (.func 35) #[] #[]] w fun e w' => ∃ r : Int, e = .returned (I r) ∧ decide (0 ≤ r) = !(l.all okN) ∧ Ex w w' := by
  obtain ⟨a, cc, rfl, hc, hcm, _, hs⟩ := hs.out
  have HS : Hid (∀ W, Ex w W → ∀ i, i < l.length → ∃ g off, a = some ⟨g, off, none⟩ ∧ g < W.heap.size ∧ W.cell? ⟨g, off + i, none⟩ = some (I (inAt l i))) := Lib.hid fun W k i hi => (hs.ex k).row hi
  have H1 : Hid ((∀ i, i < l.length → okN (inAt l i) = true) → l.all okN = true) := Lib.hid fun h => by
    rw [List.all_eq_true]
    intro x hx
    obtain ⟨i, hi⟩ := List.mem_iff_getElem?.1 hx
    have hl := (List.getElem?_eq_some_iff.1 hi).1
    rw [inAt_get hl] at hi
    obtain rfl := Option.some.inj hi
    exact h i hl
  have H0 : Hid (∀ i, i < l.length → okN (inAt l i) = false → l.all okN = false) := Lib.hid fun i hi h => by
    rw [Bool.eq_false_iff]
    intro ha
    rw [List.all_eq_true] at ha
    have := ha _ (List.mem_of_getElem? (inAt_get hi))
    rw [h] at this
    cases this
  generalize l.all okN = ov at *
  generalize inAt l = p at *
  generalize l.length = n at *
  clear hs
  unfold maxLen at hcm
  go_enter Tryd.func61, Tryd.ntmps61
  go_wp2
  go_loopw [8] (fun i wr => ∃ k : Nat, k ≤ n ∧ i = I k ∧ Hid (∀ i, i < k → okN (p i) = true) ∧ Ex w wr) (fun i _ => n - (intOf i).toNat)
  case atStart => exact ⟨0, by omega, rfl, Lib.hid (fun i hi => absurd hi (by omega)), (by (try show Ex _ _); repeat (first | (with_reducible exact ex_refl _) | (with_reducible assumption) | (with_reducible refine ex_drewL ?_) | (with_reducible refine ex_appR ?_ _) | (with_reducible refine ex_wx ?_ _) | (with_reducible refine ex_drew ?_) | (with_reducible refine ex_alloc ?_ _)))⟩
  case round =>
    obtain ⟨k, hk, rfl, HK, kr⟩ := hrel
    by_cases hlt : k < n
    · obtain ⟨g, off, rfl, r1, r2⟩ := HS.out wr kr k hlt
      have H0k := Lib.hid (H0.out k hlt)
      have HKn : Hid (okN (p k) = true → ∀ i, i < k + 1 → okN (p i) = true) := Lib.hid fun h i hi => by
        rcases Nat.lt_or_ge i k with h2 | h2
        · exact HK.out i h2
        · obtain rfl : i = k := by omega
          exact h
      clear H0 H1 HS HK
      generalize p k = pk at *
      by_cases h1 : pk < 1
      · obtain rfl := H0k.out (by unfold okN; rw [decide_eq_false (by omega)]; rfl)
        clear HKn H0k
        go_wp2
        go_ret
        exact ⟨k, rfl, by simp, (by (try show Ex _ _); repeat (first | (with_reducible exact ex_refl _) | (with_reducible assumption) | (with_reducible refine ex_drewL ?_) | (with_reducible refine ex_appR ?_ _) | (with_reducible refine ex_wx ?_ _) | (with_reducible refine ex_drew ?_) | (with_reducible refine ex_alloc ?_ _)))⟩
      · by_cases h2 : 255 < pk
        · obtain rfl := H0k.out (by unfold okN; rw [decide_eq_false (show ¬ pk ≤ 255 by omega), Bool.and_false])
          clear HKn H0k
          go_wp2
          go_ret
          exact ⟨k, rfl, by simp, (by (try show Ex _ _); repeat (first | (with_reducible exact ex_refl _) | (with_reducible assumption) | (with_reducible refine ex_drewL ?_) | (with_reducible refine ex_appR ?_ _) | (with_reducible refine ex_wx ?_ _) | (with_reducible refine ex_drew ?_) | (with_reducible refine ex_alloc ?_ _)))⟩
        · have HK3 := Lib.hid (HKn.out (by unfold okN; rw [decide_eq_true (show 1 ≤ pk by omega), decide_eq_true (show pk ≤ 255 by omega)]; rfl))
          clear HKn H0k
          go_wp2
          refine ⟨⟨k + 1, by omega, by go_num, HK3, (by (try show Ex _ _); repeat (first | (with_reducible exact ex_refl _) | (with_reducible assumption) | (with_reducible refine ex_drewL ?_) | (with_reducible refine ex_appR ?_ _) | (with_reducible refine ex_wx ?_ _) | (with_reducible refine ex_drew ?_) | (with_reducible refine ex_alloc ?_ _)))⟩, by simp [intOf]; omega⟩
    · obtain rfl : k = n := by omega
      obtain rfl := H1.out HK.out
      clear hlt hk H0 HS
      go_wp2
      go_ret
      exact ⟨-1, rfl, by simp, (by (try show Ex _ _); repeat (first | (with_reducible exact ex_refl _) | (with_reducible assumption) | (with_reducible refine ex_drewL ?_) | (with_reducible refine ex_appR ?_ _) | (with_reducible refine ex_wx ?_ _) | (with_reducible refine ex_drew ?_) | (with_reducible refine ex_alloc ?_ _)))⟩
set_option maxHeartbeats 1000000 in
theorem containsFunc_any (l : List Int) (v : Value) (w : World) (hs : SlZ w v l) :
    Calls Tryd.prog 36 #[v, .func (.func 35) #[] #[]] w (Post w (.bool (!(l.all okN)))) := by
  have HP := Lib.hid (fun w' (k : Ex w w') => indexFunc_any l v w' (hs.ex k))
  obtain ⟨a, cc, rfl, hc, hcm, _, hs⟩ := hs.out
  go_enter Tryd.func36, Tryd.ntmps36
  go_wp2_with (go_at_call 61; (with_reducible refine (HP.out _ (by (try show Ex _ _); repeat (first | (with_reducible exact ex_refl _) | (with_reducible assumption) | (with_reducible refine ex_drewL ?_) | (with_reducible refine ex_appR ?_ _) | (with_reducible refine ex_wx ?_ _) | (with_reducible refine ex_drew ?_) | (with_reducible refine ex_alloc ?_ _)))).mono ?_); rintro e w2 ⟨r, rfl, hr, X, rfl⟩)
  go_ret
  exact post_mk (by rw [← hr]; rfl) (by (try show Ex _ _); repeat (first | (with_reducible exact ex_refl _) | (with_reducible assumption) | (with_reducible refine ex_drewL ?_) | (with_reducible refine ex_appR ?_ _) | (with_reducible refine ex_wx ?_ _) | (with_reducible refine ex_drew ?_) | (with_reducible refine ex_alloc ?_ _)))
end Go.Proofs.YtpcfkjeikhehaaaDoor
