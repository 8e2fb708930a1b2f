import Derived.Test.YtbobamifpjlmiaaDoorMDraw
import Derived.ScopeJumps
import Derived.WalkMore
import Derived.Test.YtbobamifpjlmiaaDoorMWay
import Derived.Test.YtbobamifpjlmiaaDoorMWakeS

/- A scope that is jumped in once. Over whatever program. -/
set_option linter.unusedSimpArgs false
set_option linter.unusedVariables false
namespace Go.Proofs.YtbobamifpjlmiaaDoor
open Go.RowKit
section
variable {P : Program} {Q : Exit → Act → World → Prop} {J : Act → World → Prop} {a : Act} {w : World}
@[go_sem] theorem jump_normal (l : Nat) : Exit.jump l J Q .normal a w = Q .normal a w := rfl
@[go_sem] theorem jump_exit (l id : Nat) : Exit.jump l J Q (.exit id) a w = Q (.exit id) a w := rfl
@[go_sem] theorem jump_ret (l : Nat) : Exit.jump l J Q .ret a w = Q .ret a w := rfl
@[go_sem] theorem jump_panic (l : Nat) (ch : List PanicEntry) : Exit.jump l J Q (.panic ch) a w = Q (.panic ch) a w := rfl
theorem jump_goto (l : Nat) (h : J a w) : Exit.jump l J Q (.goto l) a w := ⟨rfl, h⟩
theorem wp_scope_once {c rest : Code} (l : Nat) (hf : findLabel c l = some rest) (h : c.wp P (Exit.jump l (fun a w => rest.wp P (Exit.jump l (fun _ _ => False) Q) a w) Q) a w) : (Code.scope c).wp P Q a w := by
  refine wp_scope_jumps l _ (fun _ _ => 0) hf h fun a w hJ => ?_
  refine wp_mono hJ fun e a' w' he => ?_
  cases e with
  | goto l' => exact he.2.elim
  | _ => exact he
/-- A call that leaves all as it is, as one step of a region that draws. -/
theorem step_call {ops : Array Oper} {o : Oper} {K : Act → World → Prop} {f : FuncId} {args : Array Value} {v : Value} (hg : o.guard = none) (hrun : (execOp a.eval o).run P w = .ok (.enter f args) w)
    (hc : Calls P f args w (fun e w' => e = .returned v ∧ w = w')) (h : K (a.put o.dst v) w) : (if Region.wanted o (yielded ops a.tmps) = true then Oper.wp P o a w K Q else K (a.put o.dst undef) w) := by
  rw [if_pos (by simp [Region.wanted, hg])]
  unfold Oper.wp
  rw [hrun, Oper.upon_enter]
  refine hc.mono fun e w'' hh => ?_
  obtain ⟨rfl, rfl⟩ := hh
  exact h
end
end Go.Proofs.YtbobamifpjlmiaaDoor

/- Climb, Includes. -/
set_option linter.unusedSimpArgs false
set_option linter.unusedVariables false
set_option maxRecDepth 20000
namespace Go.Proofs.YtbobamifpjlmiaaDoor
open Go.RowKit
def climbOk (n i : Int) : Bool := decide (1 ≤ n ∧ n ≤ 1024 ∧ 0 ≤ i ∧ i < n)
/-- What is climbed to; nothing where there is no such leaf. -/
def ClimbD (n i : Int) (leaf : Dg) (p : List Dg) : Option Dg := if climbOk n i then climbD n.toNat i.toNat leaf p else none
def climbV (o : Option Dg) : Value := match o with | some x => .tuple #[.agg (rowB 32 (dF x)), .bool true] | none => .tuple #[.agg (rowB 32 fun _ => 0), .bool false]
theorem foldO_take (x : Dg) (R : List Bool) (p : List Dg) (k : Nat) (b : Bool) (d : Dg) (hR : R[k]? = some b) (hp : p[k]? = some d) : foldO x (R.take (k + 1)) (p.take (k + 1)) = overD b (foldO x (R.take k) (p.take k)) d := by
  have l1 := (List.getElem?_eq_some_iff.1 hR)
  have l2 := (List.getElem?_eq_some_iff.1 hp)
  obtain ⟨h1, e1⟩ := l1
  obtain ⟨h2, e2⟩ := l2
  rw [List.take_succ_eq_append_getElem h1, List.take_succ_eq_append_getElem h2, e1, e2]
  exact foldO_snoc _ _ _ _ _ (by rw [List.length_take, List.length_take]; omega)
abbrev wC (w : World) (x : Dg) : World := (w.alloc (.cells (rowB 32 (dF x)) 26)).alloc (.cells (rowB 32 fun _ => 0) 26)
theorem wC_size (w : World) (x : Dg) : (wC w x).heap.size = w.heap.size + 1 + 1 := by simp [wC, go_sem]
set_option maxHeartbeats 4000000 in
theorem climb_any {w0 : World} (G : Glob w0) (n i : Int) (leaf : Dg) (p : List Dg) (a : Option Addr) (c : Nat) : ∀ w, Ex w0 w → p.length ≤ c → c ≤ maxLen → SlD w a p →
    Calls Tryd.prog 30 #[I n, I i, .agg (rowB 32 (dF leaf)), .slice a p.length c] w (Post w (climbV (ClimbD n i leaf p))) := by
  intro w k hc hcm hs
  replace G := G.ex k
  clear k
  unfold maxLen at hcm
  by_cases hok : climbOk n i = true
  · have hr : ClimbD n i leaf p = climbD n.toNat i.toNat leaf p := if_pos hok
    rw [hr]
    unfold climbOk at hok
    rw [decide_eq_true_eq] at hok
    obtain ⟨N, rfl⟩ : ∃ N : Nat, n = N := ⟨n.toNat, by omega⟩
    obtain ⟨q, rfl⟩ : ∃ q : Nat, i = q := ⟨i.toNat, by omega⟩
    rw [Int.toNat_natCast, Int.toNat_natCast]
    clear hr
    have hsl := sides_len N N q rfl
    have hcd : climbD N q leaf p = if (sidesN N q).length = p.length then some (foldO leaf (sidesN N q).reverse p) else none := rfl
    have HS : Hid (∀ w', Calls Tryd.prog 68 #[I N, I q] w' (PostW w'.heap.size w' (sidesN N q))) := Lib.hid fun w' => sides_any N q w' (by omega) (by omega)
    generalize sidesN N q = S at HS hcd hsl
    have j1 : ¬ (N : Int) < 1 := by omega
    have j2 : ¬ (1024 : Int) < N := by omega
    have j3 : ¬ (q : Int) < 0 := by omega
    have j4 : ¬ (N : Int) ≤ q := by omega
    have t1 : decide ((N : Int) < 1) = false := decide_eq_false j1
    have t2 : decide ((1024 : Int) < N) = false := decide_eq_false j2
    have t3 : decide ((q : Int) < 0) = false := decide_eq_false j3
    have t4 : decide ((N : Int) ≤ q) = false := decide_eq_false j4
    have t5 : decide (N ≤ q) = false := decide_eq_false (by omega)
    have t6 : decide (N < 1) = false := decide_eq_false (by omega)
    by_cases hlen : S.length = p.length
    · rw [if_pos hlen] at hcd
      rw [hcd]
      clear hcd
      obtain ⟨L, hL⟩ : ∃ L, p.length = L := ⟨_, rfl⟩
      have HL : Hid (p.length = L) := Lib.hid hL
      have HSL : Hid (S.length = L) := Lib.hid (by omega)
      rw [hL] at hc ⊢
      rw [hlen, hL] at hsl
      clear hL hlen
      obtain ⟨R, hRd⟩ : ∃ R, S.reverse = R := ⟨_, rfl⟩
      have HRD : Hid (S.reverse = R) := Lib.hid hRd
      have HR : Hid (R.length = L) := Lib.hid (by rw [← hRd, List.length_reverse]; exact HSL.out)
      rw [hRd]
      clear hRd
      go_enter Tryd.func30, Tryd.ntmps30
      go_wp2
      go_step3
      go_wp2_with (first | (go_at_call 68; refine (HS.out _).mono ?_; rintro e w2 ⟨v, rfl, hown, X, rfl⟩; obtain ⟨sa, sc, hv, k1, k2, k3⟩ := own_form hown; rw [HSL.out] at hv k1; subst hv) | (go_at_call 69; refine (revb_any S _ _ hown (by rw [HSL.out]; omega)).mono ?_; rintro e w3 ⟨rfl, hown2, hbe⟩; obtain ⟨X2, rfl⟩ := exOf (A := wC w leaf) (by (try show Ex _ _); repeat (first | (with_reducible exact ex_refl _) | (with_reducible assumption) | (with_reducible refine ex_drewL ?_) | (with_reducible refine ex_appR ?_ _) | (with_reducible refine ex_wx ?_ _) | (with_reducible refine ex_drew ?_) | (with_reducible refine ex_alloc ?_ _))) hbe))
      rw [HRD.out] at hown2
      have HO0 : Hid (OwnB (wx (wC w leaf) X2) (wC w leaf).heap.size (.slice sa L sc) R) := Lib.hid hown2
      clear hown hown2 hbe HS HSL HRD k3 t1 t2 t3 t4 t5 t6
      go_loopw [40] (fun i W => ∃ (k : Nat) (X : More), k ≤ L ∧ i = I k ∧ W = wx (wC w (foldO leaf (R.take k) (p.take k))) X ∧ Hid (OwnB (wx (wC w leaf) X) (wC w leaf).heap.size (.slice sa L sc) R)) (fun i _ => L - (intOf i).toNat)
      case atStart => exact ⟨0, X2, by omega, rfl, rfl, HO0⟩
      case round =>
        obtain ⟨k, X, hk, rfl, rfl, HO⟩ := hrel
        by_cases hlt : k < L
        · obtain ⟨g, off, rfl, hg, hcell⟩ := hs.pos (by rw [HL.out]; omega)
          obtain ⟨d, hd⟩ : ∃ d, p[k]? = some d := ⟨_, List.getElem?_eq_getElem (by rw [HL.out]; omega)⟩
          obtain ⟨b, hb⟩ : ∃ b, R[k]? = some b := ⟨_, List.getElem?_eq_getElem (by rw [HR.out]; omega)⟩
          have h1 := hcell k d hd
          obtain ⟨qq, cap, cur, hv, hz, _, _, hcur⟩ := ownb_at HO.out (by rw [HR.out]; omega)
          obtain ⟨rfl, hLR, rfl⟩ : sa = some ⟨(wC w leaf).heap.size + qq, 0, none⟩ ∧ L = R.length ∧ sc = cap := by simpa using hv
          have hcb := hcur k b hb
          have HX := Lib.hid (foldO_take leaf R p k b d hb hd)
          rw [wC_size]
          rw [wC_size] at HO hv
          generalize foldO leaf (R.take k) (p.take k) = x at HX ⊢
          have hzl : qq < X.blocks.length := (List.getElem?_eq_some_iff.1 hz).1
          have hg2 : g < w.heap.size + 1 := by omega
          have hg3 : g < w.heap.size + 1 + 1 := by omega
          have HOV : Hid (∀ w', Ex w w' → Calls Tryd.prog 70 #[.bool b, .agg (rowB 32 (dF x)), .agg (rowB 32 (dF d))] w' (Post w' (.agg (rowB 32 (dF (overD b x d)))))) := Lib.hid fun w' k => over_any G b x d w' k
          clear hcell hcur hd hb hv hs hLR
          go_wp2
          refine wp_region_mix [(0, true), (1, true), (2, true), (3, true), (4, true), (5, true), (6, false)] 7 (by kernel_rfl) (by kernel_rfl) (fun _ _ d _ _ h => by cases d <;> exact h) ?_
          simp only [List.map_cons, List.map_nil, nth, List.drop_succ_cons, List.drop_zero]
          repeat (first | (refine wpMix_look ?_; go_big_quiet_step (fail); refine wpQuiet_nil ?_) | (refine wpMix_eff rfl (fun X1 => ?_); go_wp2_with (go_at_call 70; refine (HOV.out _ (by (try show Ex _ _); repeat (first | (with_reducible exact ex_refl _) | (with_reducible assumption) | (with_reducible refine ex_drewL ?_) | (with_reducible refine ex_appR ?_ _) | (with_reducible refine ex_wx ?_ _) | (with_reducible refine ex_drew ?_) | (with_reducible refine ex_alloc ?_ _)))).mono ?_; rintro e w2 ⟨rfl, X5, rfl⟩); refine mixQ_mk (by first | exact ex_refl _ | exact ⟨_, rfl⟩ | exact ex_app _ _ _ | (simp only [wx_wx, wx_drew]; first | exact ex_refl _ | exact ex_app _ _ _ | exact ⟨_, rfl⟩) | (repeat (first | exact ex_refl _ | refine ex_drew ?_ | refine ex_alloc ?_ _ | refine ex_wx ?_ _))) ?_))
          refine wpMix_nil (fun X2 => ?_)
          go_wp2
          refine ⟨⟨k + 1, ((X.app X1).app X5).app X2, by omega, by go_num, ?_, Lib.hid (OwnB.ex HO.out (by (try show Ex _ _); repeat (first | (with_reducible exact ex_refl _) | (with_reducible assumption) | (with_reducible refine ex_drewL ?_) | (with_reducible refine ex_appR ?_ _) | (with_reducible refine ex_wx ?_ _) | (with_reducible refine ex_drew ?_) | (with_reducible refine ex_alloc ?_ _))))⟩, by simp [intOf]; omega⟩
          rw [HX.out]
        · have hx : foldO leaf (R.take k) (p.take k) = foldO leaf R p := by
            rw [List.take_of_length_le (by rw [HR.out]; omega), List.take_of_length_le (by rw [HL.out]; omega)]
          rw [hx]
          obtain rfl : k = L := by omega
          clear hlt hk hx HO HO0 hs
          go_wp2
          exact ret_rowV (cs := rowB 32 (dF (foldO leaf R p))) (v := .bool true) Tryd.results30 Tryd.underlying26 rfl info_id rfl (by simp [go_sem]) rfl rfl (post_mk rfl (by (try show Ex _ _); repeat (first | (with_reducible exact ex_refl _) | (with_reducible assumption) | (with_reducible refine ex_drewL ?_) | (with_reducible refine ex_appR ?_ _) | (with_reducible refine ex_wx ?_ _) | (with_reducible refine ex_drew ?_) | (with_reducible refine ex_alloc ?_ _))))
    · rw [if_neg hlen] at hcd
      rw [hcd]
      clear hcd
      have hb : ((S.length : Int) == p.length) = false := beq_eq_false_iff_ne.2 (by omega)
      obtain ⟨L, hL⟩ : ∃ L, p.length = L := ⟨_, rfl⟩
      obtain ⟨L2, hL2⟩ : ∃ L2, S.length = L2 := ⟨_, rfl⟩
      have HSL : Hid (S.length = L2) := Lib.hid hL2
      rw [hL] at hc hb ⊢
      rw [hL2] at hb hsl
      have hb2 : (L2 == L) = false := beq_eq_false_iff_ne.2 (by omega)
      clear hL hlen hL2 hs
      go_enter Tryd.func30, Tryd.ntmps30
      go_wp2
      refine wp_scope_once 0 (by rfl) ?_
      go_wp2_with (go_at_call 68; refine (HS.out _).mono ?_; rintro e w2 ⟨v, rfl, hown, X, rfl⟩; obtain ⟨sa, sc, hv, k1, k2, k3⟩ := own_form hown; rw [HSL.out] at hv k1; subst hv)
      go_step3
      refine ⟨rfl, ?_⟩
      go_wp2
      exact ret_rowV (cs := rowB 32 fun _ => 0) (v := .bool false) Tryd.results30 Tryd.underlying26 rfl info_id rfl (by simp [go_sem]) rfl rfl (post_mk rfl (by (try show Ex _ _); repeat (first | (with_reducible exact ex_refl _) | (with_reducible assumption) | (with_reducible refine ex_drewL ?_) | (with_reducible refine ex_appR ?_ _) | (with_reducible refine ex_wx ?_ _) | (with_reducible refine ex_drew ?_) | (with_reducible refine ex_alloc ?_ _))))
  · have hr : ClimbD n i leaf p = none := if_neg hok
    rw [hr]
    unfold climbOk at hok
    have hw : n < 1 ∨ (1 ≤ n ∧ 1024 < n) ∨ (1 ≤ n ∧ n ≤ 1024 ∧ i < 0) ∨ (1 ≤ n ∧ n ≤ 1024 ∧ 0 ≤ i ∧ n ≤ i) := by
      rw [decide_eq_true_eq] at hok; omega
    clear hok hr hs
    generalize p.length = L at hc ⊢
    rcases hw with hw | ⟨hw1, hw⟩ | ⟨hw1, hw2, hw⟩ | ⟨hw1, hw2, hw3, hw⟩
    all_goals
      go_enter Tryd.func30, Tryd.ntmps30
      go_wp2
      refine wp_scope_once 0 (by rfl) ?_
      go_wp2
      go_step3
      refine ⟨rfl, ?_⟩
      go_wp2
      exact ret_rowV (cs := rowB 32 fun _ => 0) (v := .bool false) Tryd.results30 Tryd.underlying26 rfl info_id rfl (by simp [go_sem]) rfl rfl (post_mk rfl (by (try show Ex _ _); repeat (first | (with_reducible exact ex_refl _) | (with_reducible assumption) | (with_reducible refine ex_drewL ?_) | (with_reducible refine ex_appR ?_ _) | (with_reducible refine ex_wx ?_ _) | (with_reducible refine ex_drew ?_) | (with_reducible refine ex_alloc ?_ _))))
end Go.Proofs.YtbobamifpjlmiaaDoor

/- Includes. -/
set_option linter.unusedSimpArgs false
set_option linter.unusedVariables false
set_option maxRecDepth 20000
namespace Go.Proofs.YtbobamifpjlmiaaDoor
open Go.RowKit
theorem row_zero : rowB 32 (dF zeroD) = rowB 32 fun _ => 0 := rowB_congr fun i hi => dF_ofF _ i hi
set_option maxHeartbeats 1000000 in
theorem includes_any {w0 : World} (G : Glob w0) (r : Dg) (n i : Int) (leaf : Dg) (p : List Dg) (a : Option Addr) (c : Nat) : ∀ w, Ex w0 w → p.length ≤ c → c ≤ maxLen → SlD w a p →
    Calls Tryd.prog 32 #[.agg (rowB 32 (dF r)), I n, I i, .agg (rowB 32 (dF leaf)), .slice a p.length c] w (Post w (.bool (decide (ClimbD n i leaf p = some r)))) := by
  intro w k hc hcm hs
  replace G := G.ex k
  clear k
  have HC : Hid (∀ w', Ex w w' → Calls Tryd.prog 30 #[I n, I i, .agg (rowB 32 (dF leaf)), .slice a p.length c] w' (Post w' (climbV (ClimbD n i leaf p)))) := Lib.hid fun w' k => climb_any G n i leaf p a c w' k hc hcm (hs.ex k)
  generalize ClimbD n i leaf p = o at HC ⊢
  generalize p.length = L at HC hc ⊢
  clear hs
  cases o with
  | none =>
    have HC2 : Hid (∀ w', Ex w w' → Calls Tryd.prog 30 #[I n, I i, .agg (rowB 32 (dF leaf)), .slice a L c] w' (Post w' (.tuple #[.agg (rowB 32 fun _ => 0), .bool false]))) := HC
    have hd : decide ((none : Option Dg) = some r) = false := rfl
    rw [hd]
    go_enter Tryd.func32, Tryd.ntmps32
    go_wp2_with (go_at_call 30; (with_reducible refine (HC2.out _ (by (try show Ex _ _); repeat (first | (with_reducible exact ex_refl _) | (with_reducible assumption) | (with_reducible refine ex_drewL ?_) | (with_reducible refine ex_appR ?_ _) | (with_reducible refine ex_wx ?_ _) | (with_reducible refine ex_drew ?_) | (with_reducible refine ex_alloc ?_ _)))).mono ?_); rintro e w2 ⟨rfl, X, rfl⟩)
    go_ret
    exact post_mk rfl (by (try show Ex _ _); repeat (first | (with_reducible exact ex_refl _) | (with_reducible assumption) | (with_reducible refine ex_drewL ?_) | (with_reducible refine ex_appR ?_ _) | (with_reducible refine ex_wx ?_ _) | (with_reducible refine ex_drew ?_) | (with_reducible refine ex_alloc ?_ _)))
  | some x =>
    have HC2 : Hid (∀ w', Ex w w' → Calls Tryd.prog 30 #[I n, I i, .agg (rowB 32 (dF leaf)), .slice a L c] w' (Post w' (.tuple #[.agg (rowB 32 (dF x)), .bool true]))) := HC
    have hd : decide (some x = some r) = decide (x = r) := by simp
    rw [hd]
    have he := eqD x r
    generalize decide (x = r) = b at he ⊢
    go_enter Tryd.func32, Tryd.ntmps32
    go_wp2_with (go_at_call 30; (with_reducible refine (HC2.out _ (by (try show Ex _ _); repeat (first | (with_reducible exact ex_refl _) | (with_reducible assumption) | (with_reducible refine ex_drewL ?_) | (with_reducible refine ex_appR ?_ _) | (with_reducible refine ex_wx ?_ _) | (with_reducible refine ex_drew ?_) | (with_reducible refine ex_alloc ?_ _)))).mono ?_); rintro e w2 ⟨rfl, X, rfl⟩)
    go_ret
    exact post_mk rfl (by (try show Ex _ _); repeat (first | (with_reducible exact ex_refl _) | (with_reducible assumption) | (with_reducible refine ex_drewL ?_) | (with_reducible refine ex_appR ?_ _) | (with_reducible refine ex_wx ?_ _) | (with_reducible refine ex_drew ?_) | (with_reducible refine ex_alloc ?_ _)))
end Go.Proofs.YtbobamifpjlmiaaDoor

/- wakes of the history: it does something. -/
set_option linter.unusedSimpArgs false
set_option linter.unusedVariables false
set_option maxRecDepth 20000
namespace Go.Proofs.YtbobamifpjlmiaaDoor
open Go.RowKit
@[go_sem] theorem lit_u1 : Value.agg #[.int .u8 1, .int .u8 0, .int .u8 0, .int .u8 0, .int .u8 0, .int .u8 0, .int .u8 0, .int .u8 0, .int .u8 0, .int .u8 0, .int .u8 0, .int .u8 0, .int .u8 0, .int .u8 0, .int .u8 0, .int .u8 0, .int .u8 0, .int .u8 0, .int .u8 0, .int .u8 0, .int .u8 0, .int .u8 0, .int .u8 0, .int .u8 0, .int .u8 0, .int .u8 0, .int .u8 0, .int .u8 0, .int .u8 0, .int .u8 0, .int .u8 0, .int .u8 0] = .agg (rowB 32 (dF (unitD 1))) := by kernel_rfl
@[go_sem] theorem lit_u2 : Value.agg #[.int .u8 2, .int .u8 0, .int .u8 0, .int .u8 0, .int .u8 0, .int .u8 0, .int .u8 0, .int .u8 0, .int .u8 0, .int .u8 0, .int .u8 0, .int .u8 0, .int .u8 0, .int .u8 0, .int .u8 0, .int .u8 0, .int .u8 0, .int .u8 0, .int .u8 0, .int .u8 0, .int .u8 0, .int .u8 0, .int .u8 0, .int .u8 0, .int .u8 0, .int .u8 0, .int .u8 0, .int .u8 0, .int .u8 0, .int .u8 0, .int .u8 0, .int .u8 0] = .agg (rowB 32 (dF (unitD 2))) := by kernel_rfl
@[go_sem] theorem lit_u3 : Value.agg #[.int .u8 3, .int .u8 0, .int .u8 0, .int .u8 0, .int .u8 0, .int .u8 0, .int .u8 0, .int .u8 0, .int .u8 0, .int .u8 0, .int .u8 0, .int .u8 0, .int .u8 0, .int .u8 0, .int .u8 0, .int .u8 0, .int .u8 0, .int .u8 0, .int .u8 0, .int .u8 0, .int .u8 0, .int .u8 0, .int .u8 0, .int .u8 0, .int .u8 0, .int .u8 0, .int .u8 0, .int .u8 0, .int .u8 0, .int .u8 0, .int .u8 0, .int .u8 0] = .agg (rowB 32 (dF (unitD 3))) := by kernel_rfl
def buildRun3 (P : Program) (t : TypeId) (x y z : Value) (w : World) : Result Next := ((Instr.buildSlice t 3 #[(0, x), (1, y), (2, z)]).run P w).andThen fun x w' => .ok (.value x) w'
@[go_sem ↓ high] theorem run_build3_pre {P : Program} (ρ : Operand → Value) (d : Option Tmp) (t : TypeId) (x y z : Operand) (ty : TypeId) (pos : String) (aft : Array Edge) (g : Option (Nat × Bool)) (w : World) :
    Sem.run P (execOp ρ ⟨d, .buildSlice t 3 #[(0, x), (1, y), (2, z)], ty, pos, aft, g⟩) w = buildRun3 P t (ρ x) (ρ y) (ρ z) w := by
  simp only [execOp, Sem.run_bind, Sem.run_pure, buildRun3, List.map_toArray, List.map_cons, List.map_nil]
@[go_sem low] theorem buildRun3_other {P : Program} (t : TypeId) (x y z : Value) (w : World) : buildRun3 P t x y z w = ((Instr.buildSlice t 3 #[(0, x), (1, y), (2, z)]).run P w).andThen fun x w' => .ok (.value x) w' := rfl
def C3 (a b c : Dg) : Array Value := rowB 32 (dF a) ++ rowB 32 (dF b) ++ rowB 32 (dF c)
theorem buildRun3_id (a b c : Dg) (w : World) : buildRun3 Tryd.prog 22 (.agg (rowB 32 (dF a))) (.agg (rowB 32 (dF b))) (.agg (rowB 32 (dF c))) w = .ok (.value (.slice (some ⟨w.heap.size, 0, none⟩) 3 3)) (w.alloc (.cells (C3 a b c) 26)) := by
  unfold buildRun3
  have hi : (Tryd.prog.info? 26).map (fun i => (i.zero, i.size)) = some (some (.agg (rowB 32 fun _ => 0)), 32) := by kernel_rfl
  obtain ⟨i, hi1, hi2⟩ := Option.map_eq_some_iff.1 hi
  simp only [Prod.mk.injEq] at hi2
  simp [Instr.buildSlice, run_underlying Tryd.underlying22, Go.sizeOf, typeInfo, zeroValue, hi1, hi2.1, hi2.2, Instr.fill, Value.cells, newRow, rowB_size]
  generalize hX : (if _ < 64 then none else _) = X
  have hX2 : X = some (C3 a b c) := by
    rw [← hX]; kernel_rfl
  rw [hX2]
  simp [newObj]
  rfl
attribute [go_sem] buildRun3_id
theorem C3_size (a b c : Dg) : (C3 a b c).size = 96 := by simp [C3]
theorem C3_get (a b c : Dg) (j : Nat) : (C3 a b c)[j]? = if j < 32 then some (B (dF a j)) else if j < 64 then some (B (dF b (j - 32))) else if j < 96 then some (B (dF c (j - 64))) else none := by
  unfold C3
  rw [Array.getElem?_append, Array.getElem?_append]
  simp only [Array.size_append, rowB_size, rowB_get]
  by_cases h1 : j < 32
  · rw [if_pos (by omega), if_pos h1, if_pos h1, if_pos h1]
  · by_cases h2 : j < 64
    · rw [if_pos (by omega), if_neg h1, if_pos (by omega), if_neg h1, if_pos h2]
    · rw [if_neg (by omega), if_neg h1, if_neg h2]
      by_cases h3 : j < 96
      · rw [if_pos (by omega), if_pos h3]
      · rw [if_neg (by omega), if_neg h3]
theorem C3_ext0 (a b c : Dg) : (C3 a b c).extract 0 32 = rowB 32 (dF a) := by
  apply arr_ext; intro j
  rw [Array.getElem?_extract, C3_size, C3_get, rowB_get]
  by_cases h : j < 32
  · rw [if_pos (by omega), if_pos (by omega), if_pos h, Nat.zero_add]
  · rw [if_neg (by omega), if_neg h]
theorem C3_ext1 (a b c : Dg) : (C3 a b c).extract 32 64 = rowB 32 (dF b) := by
  apply arr_ext; intro j
  rw [Array.getElem?_extract, C3_size, C3_get, rowB_get]
  by_cases h : j < 32
  · rw [if_pos (by omega), if_neg (by omega), if_pos (by omega), if_pos h, Nat.add_sub_cancel_left]
  · rw [if_neg (by omega), if_neg h]
theorem C3_ext2 (a b c : Dg) : (C3 a b c).extract 64 96 = rowB 32 (dF c) := by
  apply arr_ext; intro j
  rw [Array.getElem?_extract, C3_size, C3_get, rowB_get]
  by_cases h : j < 32
  · rw [if_pos (by omega), if_neg (by omega), if_neg (by omega), if_pos (by omega), if_pos h, Nat.add_sub_cancel_left]
  · rw [if_neg (by omega), if_neg h]
theorem sld_three {w w' : World} (k : Ex (w.alloc (.cells (C3 (unitD 1) (unitD 2) (unitD 3)) 26)) w') : SlD w' (some ⟨w.heap.size, 0, none⟩) three := by
  refine SlD.ex ⟨Or.inr ⟨_, 0, rfl, by simp [go_sem], fun i d hd => ?_⟩⟩ k
  have h3 : i = 0 ∨ i = 1 ∨ i = 2 := by
    have := (List.getElem?_eq_some_iff.1 hd).1
    have h : three.length = 3 := rfl
    omega
  rw [cellsN_alloc, if_neg (by omega), if_pos rfl]
  rcases h3 with rfl | rfl | rfl
  · obtain rfl : unitD 1 = d := by simpa [three] using hd
    rw [if_pos (by rw [C3_size]; omega)]; exact congrArg some (C3_ext0 _ _ _)
  · obtain rfl : unitD 2 = d := by simpa [three] using hd
    rw [if_pos (by rw [C3_size]; omega)]; exact congrArg some (C3_ext1 _ _ _)
  · obtain rfl : unitD 3 = d := by simpa [three] using hd
    rw [if_pos (by rw [C3_size]; omega)]; exact congrArg some (C3_ext2 _ _ _)
/-- Digests that were made, with their number. -/
def PostN (W : World) (n : Nat) (l : List Dg) (e : Ending) (w' : World) : Prop := ∃ pa pc, e = .returned (.tuple #[.slice pa n pc, I 0]) ∧ n ≤ pc ∧ pc ≤ maxLen ∧ (pa = none → pc = 0) ∧ SlD w' pa l ∧ ∃ X, w' = wx W X
theorem postN {W : World} {n : Nat} {l : List Dg} (hn : l.length = n) (e : Ending) (w' : World) (h : PostO2 W l e w') : PostN W n l e w' := by
  obtain ⟨v, rfl, hown, hx⟩ := h
  obtain ⟨a, c, rfl, h1, h2, h3, h4⟩ := hown.slg
  subst hn
  exact ⟨a, c, rfl, h1, h2, h3, h4, hx⟩
set_option maxHeartbeats 8000000 in
theorem wakesH_any (w : World) (G : Glob w) : Calls Tryd.prog 15 #[] w (Post w (.bool true)) := by
  obtain ⟨W1, hW1⟩ : ∃ W1, W1 = w.alloc (.cells (C3 (unitD 1) (unitD 2) (unitD 3)) 26) := ⟨_, rfl⟩
  have G1 : Glob W1 := by rw [hW1]; exact G.ex (by (try show Ex _ _); repeat (first | (with_reducible exact ex_refl _) | (with_reducible assumption) | (with_reducible refine ex_drewL ?_) | (with_reducible refine ex_appR ?_ _) | (with_reducible refine ex_wx ?_ _) | (with_reducible refine ex_drew ?_) | (with_reducible refine ex_alloc ?_ _)))
  have hS : ∀ w', Ex W1 w' → SlD w' (some ⟨w.heap.size, 0, none⟩) three := fun w' k => sld_three (by rw [← hW1]; exact k)
  have HRt : Hid (∀ w', Ex W1 w' → Calls Tryd.prog 17 #[.slice (some ⟨w.heap.size, 0, none⟩) 3 3] w' (Post w' (.tuple #[.agg (rowB 32 (dF (litD r012L))), I 0]))) := Lib.hid fun w' k => by
    have := Root_any three (some ⟨w.heap.size, 0, none⟩) 3 w' (by decide) (by decide) (by decide) (hS w' k) (G1.ex k)
    rwa [three_root] at this
  have HP : Hid (∀ w', Ex W1 w' → Calls Tryd.prog 18 #[.slice (some ⟨w.heap.size, 0, none⟩) 3 3, I 1] w' (PostN w' 2 (pathD three 1))) := Lib.hid fun w' k =>
    (path_in three (some ⟨w.heap.size, 0, none⟩) 3 1 w' (by decide) (by decide) (by decide) (hS w' k) (G1.ex k) (by decide)).mono (postN (by rw [three_path]; rfl))
  have HQ : Hid (∀ w', Ex W1 w' → Calls Tryd.prog 19 #[.slice (some ⟨w.heap.size, 0, none⟩) 3 3, I 2] w' (PostN w' 1 (proofD three 2 true))) := Lib.hid fun w' k =>
    (proof_in three (some ⟨w.heap.size, 0, none⟩) 3 2 w' (by decide) (by decide) (by decide) (hS w' k) (G1.ex k) (by decide) (by decide)).mono (postN three_proof)
  have HN1 : Hid (∀ w', Ex W1 w' → Calls Tryd.prog 24 #[.agg (rowB 32 (dF (unitD 1))), .agg (rowB 32 (dF (unitD 2)))] w' (Post w' (.agg (rowB 32 (dF (litD n01L)))))) := Lib.hid fun w' k => by
    have := node_any G1 (unitD 1) (unitD 2) w' k
    rwa [n01_lit] at this
  have HN2 : Hid (∀ w', Ex W1 w' → Calls Tryd.prog 24 #[.agg (rowB 32 (dF (litD n01L))), .agg (rowB 32 (dF (unitD 3)))] w' (Post w' (.agg (rowB 32 (dF (litD r012L)))))) := Lib.hid fun w' k => by
    have := node_any G1 (litD n01L) (unitD 3) w' k
    rwa [r012_lit] at this
  have HI1 : Hid (∀ w' pa pc, Ex W1 w' → 2 ≤ pc → pc ≤ maxLen → SlD w' pa (pathD three 1) → Calls Tryd.prog 32 #[.agg (rowB 32 (dF (litD r012L))), I 3, I 1, .agg (rowB 32 (dF (unitD 2))), .slice pa 2 pc] w' (Post w' (.bool true))) := Lib.hid fun w' pa pc k h1 h2 h3 => by
    have hl : (pathD three 1).length = 2 := by rw [three_path]; rfl
    have := includes_any G1 (litD r012L) 3 1 (unitD 2) (pathD three 1) pa pc w' k (by rw [hl]; exact h1) h2 h3
    rw [hl] at this
    rwa [show decide (ClimbD 3 1 (unitD 2) (pathD three 1) = some (litD r012L)) = true from decide_eq_true three_climb] at this
  have HI2 : Hid (∀ w' pa pc, Ex W1 w' → 2 ≤ pc → pc ≤ maxLen → SlD w' pa (pathD three 1) → Calls Tryd.prog 32 #[.agg (rowB 32 (dF (litD r012L))), I 3, I 1, .agg (rowB 32 (dF (unitD 1))), .slice pa 2 pc] w' (Post w' (.bool false))) := Lib.hid fun w' pa pc k h1 h2 h3 => by
    have hl : (pathD three 1).length = 2 := by rw [three_path]; rfl
    have := includes_any G1 (litD r012L) 3 1 (unitD 1) (pathD three 1) pa pc w' k (by rw [hl]; exact h1) h2 h3
    rw [hl] at this
    rwa [show decide (ClimbD 3 1 (unitD 1) (pathD three 1) = some (litD r012L)) = false from three_off] at this
  have he1 := eqD (litD r012L) (litD r012L)
  have he2 := eqD (litD r012L) (litD n01L)
  rw [three_ne] at he2
  rw [decide_eq_true rfl] at he1
  have x0 := C3_ext0 (unitD 1) (unitD 2) (unitD 3)
  have x1 := C3_ext1 (unitD 1) (unitD 2) (unitD 3)
  have x2 := C3_ext2 (unitD 1) (unitD 2) (unitD 3)
  have xs := C3_size (unitD 1) (unitD 2) (unitD 3)
  generalize proofD three 2 true = qs at HQ
  generalize pathD three 1 = ps at HP HI1 HI2
  subst hW1
  clear hS G1 G
  generalize litD r012L = dr at *
  generalize litD n01L = dn at *
  go_enter Tryd.func15, Tryd.ntmps15
  go_wp2_with (first | (go_at_call 17; (with_reducible refine (HRt.out _ (by (try show Ex _ _); repeat (first | (with_reducible exact ex_refl _) | (with_reducible assumption) | (with_reducible refine ex_drewL ?_) | (with_reducible refine ex_appR ?_ _) | (with_reducible refine ex_wx ?_ _) | (with_reducible refine ex_drew ?_) | (with_reducible refine ex_alloc ?_ _)))).mono ?_); rintro e w2 ⟨rfl, X1, rfl⟩) | (go_at_call 18; (with_reducible refine (HP.out _ (by (try show Ex _ _); repeat (first | (with_reducible exact ex_refl _) | (with_reducible assumption) | (with_reducible refine ex_drewL ?_) | (with_reducible refine ex_appR ?_ _) | (with_reducible refine ex_wx ?_ _) | (with_reducible refine ex_drew ?_) | (with_reducible refine ex_alloc ?_ _)))).mono ?_); rintro e w2 ⟨pa, pc, rfl, p1, p2, p3, psl, X2, rfl⟩) | (go_at_call 19; (with_reducible refine (HQ.out _ (by (try show Ex _ _); repeat (first | (with_reducible exact ex_refl _) | (with_reducible assumption) | (with_reducible refine ex_drewL ?_) | (with_reducible refine ex_appR ?_ _) | (with_reducible refine ex_wx ?_ _) | (with_reducible refine ex_drew ?_) | (with_reducible refine ex_alloc ?_ _)))).mono ?_); rintro e w2 ⟨qa, qc, rfl, q1, q2, q3, qsl, X3, rfl⟩))
  clear qsl q1 q2 q3 p3
  (try simp only [wx_wx] at psl)
  refine wp_region_seq [(0, true), (1, true), (2, true), (3, true), (4, true), (5, true), (6, true), (7, true), (8, true), (9, true), (10, true), (11, true), (12, true), (13, true), (14, true), (15, true), (16, true), (17, true), (19, true), (20, true), (21, true), (18, false), (22, false), (23, true), (24, true), (25, true), (26, true), (27, true), (28, true), (29, true), (30, true), (31, true), (32, true), (33, false), (34, true), (35, true), (36, true), (37, true), (38, true), (39, true), (40, true), (41, true), (42, true), (43, true), (44, true), (45, true), (46, true), (47, true), (48, true), (49, true), (50, true), (51, true), (52, false), (53, true), (54, true), (55, true), (56, true), (57, true), (58, true), (59, true), (60, false), (61, true), (62, true), (63, true)] (by kernel_rfl) (by kernel_rfl) (fun _ _ d _ _ h => by cases d <;> exact h) ?_
  simp only [List.map_cons, List.map_nil, nth]
  repeat (first | ((with_reducible refine wpSeq_look ?_); go_big_quiet_step (fail); (with_reducible refine wpQuiet_nil ?_)) | ((with_reducible refine wpSeq_effF ?_ ?_); (focus rfl); go_simp) | ((with_reducible refine wpSeq_eff ?_ ?_); (focus rfl); (try dsimp only); go_wp2_with (first | (go_at_call 24; (with_reducible refine (HN1.out _ (by (try show Ex _ _); repeat (first | (with_reducible exact ex_refl _) | (with_reducible assumption) | (with_reducible refine ex_drewL ?_) | (with_reducible refine ex_appR ?_ _) | (with_reducible refine ex_wx ?_ _) | (with_reducible refine ex_drew ?_) | (with_reducible refine ex_alloc ?_ _)))).mono ?_); rintro e w2 ⟨rfl, X, rfl⟩) | (go_at_call 24; (with_reducible refine (HN2.out _ (by (try show Ex _ _); repeat (first | (with_reducible exact ex_refl _) | (with_reducible assumption) | (with_reducible refine ex_drewL ?_) | (with_reducible refine ex_appR ?_ _) | (with_reducible refine ex_wx ?_ _) | (with_reducible refine ex_drew ?_) | (with_reducible refine ex_alloc ?_ _)))).mono ?_); rintro e w2 ⟨rfl, X, rfl⟩) | (go_at_call 32; (with_reducible refine (HI1.out _ _ _ (by (try show Ex _ _); repeat (first | (with_reducible exact ex_refl _) | (with_reducible assumption) | (with_reducible refine ex_drewL ?_) | (with_reducible refine ex_appR ?_ _) | (with_reducible refine ex_wx ?_ _) | (with_reducible refine ex_drew ?_) | (with_reducible refine ex_alloc ?_ _))) p1 p2 (psl.ex (by (try show Ex _ _); repeat (first | (with_reducible exact ex_refl _) | (with_reducible assumption) | (with_reducible refine ex_drewL ?_) | (with_reducible refine ex_appR ?_ _) | (with_reducible refine ex_wx ?_ _) | (with_reducible refine ex_drew ?_) | (with_reducible refine ex_alloc ?_ _))))).mono ?_); rintro e w2 ⟨rfl, X, rfl⟩) | (go_at_call 32; (with_reducible refine (HI2.out _ _ _ (by (try show Ex _ _); repeat (first | (with_reducible exact ex_refl _) | (with_reducible assumption) | (with_reducible refine ex_drewL ?_) | (with_reducible refine ex_appR ?_ _) | (with_reducible refine ex_wx ?_ _) | (with_reducible refine ex_drew ?_) | (with_reducible refine ex_alloc ?_ _))) p1 p2 (psl.ex (by (try show Ex _ _); repeat (first | (with_reducible exact ex_refl _) | (with_reducible assumption) | (with_reducible refine ex_drewL ?_) | (with_reducible refine ex_appR ?_ _) | (with_reducible refine ex_wx ?_ _) | (with_reducible refine ex_drew ?_) | (with_reducible refine ex_alloc ?_ _))))).mono ?_); rintro e w2 ⟨rfl, X, rfl⟩)); refine mixQ_mk (by (try show Ex _ _); repeat (first | (with_reducible exact ex_refl _) | (with_reducible assumption) | (with_reducible refine ex_drewL ?_) | (with_reducible refine ex_appR ?_ _) | (with_reducible refine ex_wx ?_ _) | (with_reducible refine ex_drew ?_) | (with_reducible refine ex_alloc ?_ _))) ?_))
  refine wpSeq_nil ?_
  all_goals
    go_wp2
    go_ret
    exact post_mk rfl (by (try show Ex _ _); repeat (first | (with_reducible exact ex_refl _) | (with_reducible assumption) | (with_reducible refine ex_drewL ?_) | (with_reducible refine ex_appR ?_ _) | (with_reducible refine ex_wx ?_ _) | (with_reducible refine ex_drew ?_) | (with_reducible refine ex_alloc ?_ _)))
end Go.Proofs.YtbobamifpjlmiaaDoor
