/- BlakeSums: what it does. -/
import Derived.Test.YtbebehcalephfaaDoorLaws1
import Derived.Test.YtbebehcalephfaaDoorOpen
set_option linter.unusedSimpArgs false
set_option linter.unusedVariables false
set_option maxRecDepth 20000
namespace Go.Proofs.YtbebehcalephfaaDoor
open Go.RowKit
@[go_sem] theorem eqN_same (f : Nat → UInt8) (n : Nat) : eqN f f n = true := eqN_true.2 fun _ _ => rfl
/-- few, of a slice that lies in an elder world. -/
theorem few_hid {w : World} {e : SlE} (h : e.ok w) : ∃ m, m ≤ 1000 ∧ Hid (∀ w', Ex w w' → Calls Tryd.prog 20 #[.slice e.a e.n e.c] w' (PostSl w' m e.f)) :=
  ⟨min e.n 1000, by omega, Lib.hid fun w' k => few_any e.a e.n e.c e.f w' h.nc h.cm h.nil (h.at'.ex k)⟩
set_option maxHeartbeats 2000000 in
theorem sums_any (a : Option Addr) (n c : Nat) (E : Nat → SlE) (w : World) (hn : n ≤ c) (hc : c ≤ maxLen) (hs : SlV w a n (fun i => (E i).v)) (hE : ∀ i, i < n → (E i).ok w) (G : Glob w) :
    Calls Tryd.prog 5 #[.slice a n c] w (Post w (.bool true)) := by
  unfold maxLen at hc
  have HE := Lib.hid hE
  clear hE
  go_enter Tryd.func5, Tryd.ntmps5
  go_wp2_with (go_at_call 10; refine (wakes_any _ (G.ex (by repeat (first | exact ex_refl _ | refine ex_appR ?_ _ | refine ex_wx ?_ _ | refine ex_drew ?_ | refine ex_alloc ?_ _)))).mono ?_; rintro e w' ⟨rfl, X, rfl⟩)
  go_loopw [10] (fun i wr => ∃ k : Nat, k ≤ n ∧ i = I k ∧ Ex w wr) (fun i _ => n - (intOf i).toNat)
  case atStart => exact ⟨0, by omega, rfl, (by repeat (first | exact ex_refl _ | refine ex_appR ?_ _ | refine ex_wx ?_ _ | refine ex_drew ?_ | refine ex_alloc ?_ _))⟩
  case round =>
    obtain ⟨k, hk, rfl, X0, rfl⟩ := hrel
    by_cases hlt : k < n
    · obtain ⟨g, off, rfl, hg, hcell⟩ := hs.pos (by omega)
      have h1 := hcell k hlt
      obtain ⟨m, hm, HF⟩ := few_hid (HE.out k hlt)
      simp only [SlE.v] at h1
      generalize E k = e at h1 HF
      obtain ⟨ea, en, ec, ef⟩ := e
      simp only at h1 HF
      clear hcell
      by_cases h8 : k = 8
      · have h8' : ((k : Int) == 8) = true := by rw [h8]; rfl
        have H8 := Lib.hid h8
        clear h8
        go_wp2
        go_ret
        exact post_mk rfl (by repeat (first | exact ex_refl _ | refine ex_appR ?_ _ | refine ex_wx ?_ _ | refine ex_drew ?_ | refine ex_alloc ?_ _))
      · have h8' : ((k : Int) == 8) = false := beq_eq_false_iff_ne.2 (by omega)
        clear h8
        have tok1 : True := trivial
        have tok2 : True := trivial
        have tok3 : True := trivial
        go_wp2_with (first | (go_at_call 20; have _t := tok1; refine (HF.out _ (by repeat (first | exact ex_refl _ | refine ex_appR ?_ _ | refine ex_wx ?_ _ | refine ex_drew ?_ | refine ex_alloc ?_ _))).mono ?_; rintro e w' ⟨a1, c1, rfl, k1, k1', k1'', s1, X1, rfl⟩; (try simp only [wx_wx] at s1); clear tok1) | (go_at_call 20; have _t := tok2; refine (HF.out _ (by repeat (first | exact ex_refl _ | refine ex_appR ?_ _ | refine ex_wx ?_ _ | refine ex_drew ?_ | refine ex_alloc ?_ _))).mono ?_; rintro e w' ⟨a2, c2, rfl, k2, k2', k2'', s2, X2, rfl⟩; (try simp only [wx_wx] at s2); clear tok2) | (go_at_call 20; have _t := tok3; refine (HF.out _ (by repeat (first | exact ex_refl _ | refine ex_appR ?_ _ | refine ex_wx ?_ _ | refine ex_drew ?_ | refine ex_alloc ?_ _))).mono ?_; rintro e w' ⟨a3, c3, rfl, k3, k3', k3'', s3, X3, rfl⟩; (try simp only [wx_wx] at s3); clear tok3) | (go_at_call 21; refine (sum_glob G (by repeat (first | exact ex_refl _ | refine ex_appR ?_ _ | refine ex_wx ?_ _ | refine ex_drew ?_ | refine ex_alloc ?_ _)) a1 m c1 ef k1 k1' (by omega) s1).mono ?_; rintro e w' ⟨rfl, X, rfl⟩) | (go_at_call 22; refine (refsum_any a2 m c2 ef _ k2 k2' (by omega) s2).mono ?_; rintro e w' ⟨rfl, X, rfl⟩) | (go_at_call 23; refine (equal_any a1 a3 m c1 m c3 ef ef _ (s1.ex (by repeat (first | exact ex_refl _ | refine ex_appR ?_ _ | refine ex_wx ?_ _ | refine ex_drew ?_ | refine ex_alloc ?_ _))) s3 (by unfold maxLen; omega) (by unfold maxLen; omega)).mono ?_; rintro e w' ⟨rfl, X, rfl⟩))
        refine ⟨⟨k + 1, by omega, by go_num, (by repeat (first | exact ex_refl _ | refine ex_appR ?_ _ | refine ex_wx ?_ _ | refine ex_drew ?_ | refine ex_alloc ?_ _))⟩, by simp [intOf]; omega⟩
    · obtain rfl : k = n := by omega
      clear hlt hk
      go_wp2
      go_ret
      exact post_mk rfl (by repeat (first | exact ex_refl _ | refine ex_appR ?_ _ | refine ex_wx ?_ _ | refine ex_drew ?_ | refine ex_alloc ?_ _))
end Go.Proofs.YtbebehcalephfaaDoor
