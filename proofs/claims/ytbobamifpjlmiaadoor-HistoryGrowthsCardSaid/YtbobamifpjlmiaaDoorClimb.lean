/- Climb, Includes. -/
import Derived.Test.YtbobamifpjlmiaaDoorWay
import Derived.Test.YtbobamifpjlmiaaDoorGoto
set_option linter.unusedSimpArgs false
set_option linter.unusedVariables false
set_option maxRecDepth 20000
namespace Go.Proofs.YtbobamifpjlmiaaDoor
open Go.RowKit
def climbOk (n i : Int) : Bool := decide (1 ≤ n ∧ n ≤ 1024 ∧ 0 ≤ i ∧ i < n)
/-- What is climbed to; nothing where there is no such leaf. -/
def ClimbD (n i : Int) (leaf : Dg) (p : List Dg) : Option Dg := if climbOk n i then climbD n.toNat i.toNat leaf p else none
def climbV (o : Option Dg) : Value := match o with | some x => .tuple #[.agg (rowB 32 (dF x)), .bool true] | none => .tuple #[.agg (rowB 32 fun _ => 0), .bool false]
theorem foldO_take (x : Dg) (R : List Bool) (p : List Dg) (k : Nat) (b : Bool) (d : Dg) (hR : R[k]? = some b) (hp : p[k]? = some d) : foldO x (R.take (k + 1)) (p.take (k + 1)) = overD b (foldO x (R.take k) (p.take k)) d := by
  have l1 := (List.getElem?_eq_some_iff.1 hR)
  have l2 := (List.getElem?_eq_some_iff.1 hp)
  obtain ⟨h1, e1⟩ := l1
  obtain ⟨h2, e2⟩ := l2
  rw [List.take_succ_eq_append_getElem h1, List.take_succ_eq_append_getElem h2, e1, e2]
  exact foldO_snoc _ _ _ _ _ (by rw [List.length_take, List.length_take]; omega)
abbrev wC (w : World) (x : Dg) : World := (w.alloc (.cells (rowB 32 (dF x)) 26)).alloc (.cells (rowB 32 fun _ => 0) 26)
theorem wC_size (w : World) (x : Dg) : (wC w x).heap.size = w.heap.size + 1 + 1 := by simp [wC, go_sem]
set_option maxHeartbeats 4000000 in
theorem climb_any {w0 : World} (G : Glob w0) (n i : Int) (leaf : Dg) (p : List Dg) (a : Option Addr) (c : Nat) : ∀ w, Ex w0 w → p.length ≤ c → c ≤ maxLen → SlD w a p →
    Calls Tryd.prog 30 #[I n, I i, .agg (rowB 32 (dF leaf)), .slice a p.length c] w (Post w (climbV (ClimbD n i leaf p))) := by
  intro w k hc hcm hs
  replace G := G.ex k
  clear k
  unfold maxLen at hcm
  by_cases hok : climbOk n i = true
  · have hr : ClimbD n i leaf p = climbD n.toNat i.toNat leaf p := if_pos hok
    rw [hr]
    unfold climbOk at hok
    rw [decide_eq_true_eq] at hok
    obtain ⟨N, rfl⟩ : ∃ N : Nat, n = N := ⟨n.toNat, by omega⟩
    obtain ⟨q, rfl⟩ : ∃ q : Nat, i = q := ⟨i.toNat, by omega⟩
    rw [Int.toNat_natCast, Int.toNat_natCast]
    clear hr
    have hsl := sides_len N N q rfl
    have hcd : climbD N q leaf p = if (sidesN N q).length = p.length then some (foldO leaf (sidesN N q).reverse p) else none := rfl
    have HS : Hid (∀ w', Calls Tryd.prog 68 #[I N, I q] w' (PostW w'.heap.size w' (sidesN N q))) := Lib.hid fun w' => sides_any N q w' (by omega) (by omega)
    generalize sidesN N q = S at HS hcd hsl
    have j1 : ¬ (N : Int) < 1 := by omega
    have j2 : ¬ (1024 : Int) < N := by omega
    have j3 : ¬ (q : Int) < 0 := by omega
    have j4 : ¬ (N : Int) ≤ q := by omega
    have t1 : decide ((N : Int) < 1) = false := decide_eq_false j1
    have t2 : decide ((1024 : Int) < N) = false := decide_eq_false j2
    have t3 : decide ((q : Int) < 0) = false := decide_eq_false j3
    have t4 : decide ((N : Int) ≤ q) = false := decide_eq_false j4
    have t5 : decide (N ≤ q) = false := decide_eq_false (by omega)
    have t6 : decide (N < 1) = false := decide_eq_false (by omega)
    by_cases hlen : S.length = p.length
    · rw [if_pos hlen] at hcd
      rw [hcd]
      clear hcd
      obtain ⟨L, hL⟩ : ∃ L, p.length = L := ⟨_, rfl⟩
      have HL : Hid (p.length = L) := Lib.hid hL
      have HSL : Hid (S.length = L) := Lib.hid (by omega)
      rw [hL] at hc ⊢
      rw [hlen, hL] at hsl
      clear hL hlen
      obtain ⟨R, hRd⟩ : ∃ R, S.reverse = R := ⟨_, rfl⟩
      have HRD : Hid (S.reverse = R) := Lib.hid hRd
      have HR : Hid (R.length = L) := Lib.hid (by rw [← hRd, List.length_reverse]; exact HSL.out)
      rw [hRd]
      clear hRd
      go_enter Tryd.func30, Tryd.ntmps30
      go_wp2
      go_step3
      go_wp2_with (first | (go_at_call 68; refine (HS.out _).mono ?_; rintro e w2 ⟨v, rfl, hown, X, rfl⟩; obtain ⟨sa, sc, hv, k1, k2, k3⟩ := own_form hown; rw [HSL.out] at hv k1; subst hv) | (go_at_call 69; refine (revb_any S _ _ hown (by rw [HSL.out]; omega)).mono ?_; rintro e w3 ⟨rfl, hown2, hbe⟩; obtain ⟨X2, rfl⟩ := exOf (A := wC w leaf) (by (try show Ex _ _); repeat (first | (with_reducible exact ex_refl _) | (with_reducible assumption) | (with_reducible refine ex_drewL ?_) | (with_reducible refine ex_appR ?_ _) | (with_reducible refine ex_wx ?_ _) | (with_reducible refine ex_drew ?_) | (with_reducible refine ex_alloc ?_ _))) hbe))
      rw [HRD.out] at hown2
      have HO0 : Hid (OwnB (wx (wC w leaf) X2) (wC w leaf).heap.size (.slice sa L sc) R) := Lib.hid hown2
      clear hown hown2 hbe HS HSL HRD k3 t1 t2 t3 t4 t5 t6
      go_loopw [40] (fun i W => ∃ (k : Nat) (X : More), k ≤ L ∧ i = I k ∧ W = wx (wC w (foldO leaf (R.take k) (p.take k))) X ∧ Hid (OwnB (wx (wC w leaf) X) (wC w leaf).heap.size (.slice sa L sc) R)) (fun i _ => L - (intOf i).toNat)
      case atStart => exact ⟨0, X2, by omega, rfl, rfl, HO0⟩
      case round =>
        obtain ⟨k, X, hk, rfl, rfl, HO⟩ := hrel
        by_cases hlt : k < L
        · obtain ⟨g, off, rfl, hg, hcell⟩ := hs.pos (by rw [HL.out]; omega)
          obtain ⟨d, hd⟩ : ∃ d, p[k]? = some d := ⟨_, List.getElem?_eq_getElem (by rw [HL.out]; omega)⟩
          obtain ⟨b, hb⟩ : ∃ b, R[k]? = some b := ⟨_, List.getElem?_eq_getElem (by rw [HR.out]; omega)⟩
          have h1 := hcell k d hd
          obtain ⟨qq, cap, cur, hv, hz, _, _, hcur⟩ := ownb_at HO.out (by rw [HR.out]; omega)
          obtain ⟨rfl, hLR, rfl⟩ : sa = some ⟨(wC w leaf).heap.size + qq, 0, none⟩ ∧ L = R.length ∧ sc = cap := by simpa using hv
          have hcb := hcur k b hb
          have HX := Lib.hid (foldO_take leaf R p k b d hb hd)
          rw [wC_size]
          rw [wC_size] at HO hv
          generalize foldO leaf (R.take k) (p.take k) = x at HX ⊢
          have hzl : qq < X.blocks.length := (List.getElem?_eq_some_iff.1 hz).1
          have hg2 : g < w.heap.size + 1 := by omega
          have hg3 : g < w.heap.size + 1 + 1 := by omega
          have HOV : Hid (∀ w', Ex w w' → Calls Tryd.prog 70 #[.bool b, .agg (rowB 32 (dF x)), .agg (rowB 32 (dF d))] w' (Post w' (.agg (rowB 32 (dF (overD b x d)))))) := Lib.hid fun w' k => over_any G b x d w' k
          clear hcell hcur hd hb hv hs hLR
          go_wp2
          refine wp_region_mix [(0, true), (1, true), (2, true), (3, true), (4, true), (5, true), (6, false)] 7 (by kernel_rfl) (by kernel_rfl) (fun _ _ d _ _ h => by cases d <;> exact h) ?_
          simp only [List.map_cons, List.map_nil, nth, List.drop_succ_cons, List.drop_zero]
          repeat (first | (refine wpMix_look ?_; go_big_quiet_step (fail); refine wpQuiet_nil ?_) | (refine wpMix_eff rfl (fun X1 => ?_); go_wp2_with (go_at_call 70; refine (HOV.out _ (by (try show Ex _ _); repeat (first | (with_reducible exact ex_refl _) | (with_reducible assumption) | (with_reducible refine ex_drewL ?_) | (with_reducible refine ex_appR ?_ _) | (with_reducible refine ex_wx ?_ _) | (with_reducible refine ex_drew ?_) | (with_reducible refine ex_alloc ?_ _)))).mono ?_; rintro e w2 ⟨rfl, X5, rfl⟩); refine mixQ_mk (by first | exact ex_refl _ | exact ⟨_, rfl⟩ | exact ex_app _ _ _ | (simp only [wx_wx, wx_drew]; first | exact ex_refl _ | exact ex_app _ _ _ | exact ⟨_, rfl⟩) | (repeat (first | exact ex_refl _ | refine ex_drew ?_ | refine ex_alloc ?_ _ | refine ex_wx ?_ _))) ?_))
          refine wpMix_nil (fun X2 => ?_)
          go_wp2
          refine ⟨⟨k + 1, ((X.app X1).app X5).app X2, by omega, by go_num, ?_, Lib.hid (OwnB.ex HO.out (by (try show Ex _ _); repeat (first | (with_reducible exact ex_refl _) | (with_reducible assumption) | (with_reducible refine ex_drewL ?_) | (with_reducible refine ex_appR ?_ _) | (with_reducible refine ex_wx ?_ _) | (with_reducible refine ex_drew ?_) | (with_reducible refine ex_alloc ?_ _))))⟩, by simp [intOf]; omega⟩
          rw [HX.out]
        · have hx : foldO leaf (R.take k) (p.take k) = foldO leaf R p := by
            rw [List.take_of_length_le (by rw [HR.out]; omega), List.take_of_length_le (by rw [HL.out]; omega)]
          rw [hx]
          obtain rfl : k = L := by omega
          clear hlt hk hx HO HO0 hs
          go_wp2
          exact ret_rowV (cs := rowB 32 (dF (foldO leaf R p))) (v := .bool true) Tryd.results30 Tryd.underlying26 rfl info_id rfl (by simp [go_sem]) rfl rfl (post_mk rfl (by (try show Ex _ _); repeat (first | (with_reducible exact ex_refl _) | (with_reducible assumption) | (with_reducible refine ex_drewL ?_) | (with_reducible refine ex_appR ?_ _) | (with_reducible refine ex_wx ?_ _) | (with_reducible refine ex_drew ?_) | (with_reducible refine ex_alloc ?_ _))))
    · rw [if_neg hlen] at hcd
      rw [hcd]
      clear hcd
      have hb : ((S.length : Int) == p.length) = false := beq_eq_false_iff_ne.2 (by omega)
      obtain ⟨L, hL⟩ : ∃ L, p.length = L := ⟨_, rfl⟩
      obtain ⟨L2, hL2⟩ : ∃ L2, S.length = L2 := ⟨_, rfl⟩
      have HSL : Hid (S.length = L2) := Lib.hid hL2
      rw [hL] at hc hb ⊢
      rw [hL2] at hb hsl
      have hb2 : (L2 == L) = false := beq_eq_false_iff_ne.2 (by omega)
      clear hL hlen hL2 hs
      go_enter Tryd.func30, Tryd.ntmps30
      go_wp2
      refine wp_scope_once 0 (by rfl) ?_
      go_wp2_with (go_at_call 68; refine (HS.out _).mono ?_; rintro e w2 ⟨v, rfl, hown, X, rfl⟩; obtain ⟨sa, sc, hv, k1, k2, k3⟩ := own_form hown; rw [HSL.out] at hv k1; subst hv)
      go_step3
      refine ⟨rfl, ?_⟩
      go_wp2
      exact ret_rowV (cs := rowB 32 fun _ => 0) (v := .bool false) Tryd.results30 Tryd.underlying26 rfl info_id rfl (by simp [go_sem]) rfl rfl (post_mk rfl (by (try show Ex _ _); repeat (first | (with_reducible exact ex_refl _) | (with_reducible assumption) | (with_reducible refine ex_drewL ?_) | (with_reducible refine ex_appR ?_ _) | (with_reducible refine ex_wx ?_ _) | (with_reducible refine ex_drew ?_) | (with_reducible refine ex_alloc ?_ _))))
  · have hr : ClimbD n i leaf p = none := if_neg hok
    rw [hr]
    unfold climbOk at hok
    have hw : n < 1 ∨ (1 ≤ n ∧ 1024 < n) ∨ (1 ≤ n ∧ n ≤ 1024 ∧ i < 0) ∨ (1 ≤ n ∧ n ≤ 1024 ∧ 0 ≤ i ∧ n ≤ i) := by
      rw [decide_eq_true_eq] at hok; omega
    clear hok hr hs
    generalize p.length = L at hc ⊢
    rcases hw with hw | ⟨hw1, hw⟩ | ⟨hw1, hw2, hw⟩ | ⟨hw1, hw2, hw3, hw⟩
    all_goals
      go_enter Tryd.func30, Tryd.ntmps30
      go_wp2
      refine wp_scope_once 0 (by rfl) ?_
      go_wp2
      go_step3
      refine ⟨rfl, ?_⟩
      go_wp2
      exact ret_rowV (cs := rowB 32 fun _ => 0) (v := .bool false) Tryd.results30 Tryd.underlying26 rfl info_id rfl (by simp [go_sem]) rfl rfl (post_mk rfl (by (try show Ex _ _); repeat (first | (with_reducible exact ex_refl _) | (with_reducible assumption) | (with_reducible refine ex_drewL ?_) | (with_reducible refine ex_appR ?_ _) | (with_reducible refine ex_wx ?_ _) | (with_reducible refine ex_drew ?_) | (with_reducible refine ex_alloc ?_ _))))
end Go.Proofs.YtbobamifpjlmiaaDoor
