import Derived.Test.YtcdocklbpfdmeaaDoorMDraw
import Derived.ScopeJumps
import Derived.WalkMore
import Derived.Test.YtcdocklbpfdmeaaDoorMBits
import Derived.Test.YtcdocklbpfdmeaaDoorMWakeS
import Derived.Test.YtcdocklbpfdmeaaDoorMSeaS
import Derived.Test.YtcdocklbpfdmeaaDoorMOwn

/- A scope that is jumped in once. Over whatever program. -/
set_option linter.unusedSimpArgs false
set_option linter.unusedVariables false
namespace Go.Proofs.YtcdocklbpfdmeaaDoor
open Go.RowKit
section
variable {P : Program} {Q : Exit → Act → World → Prop} {J : Act → World → Prop} {a : Act} {w : World}
@[go_sem] theorem jump_normal (l : Nat) : Exit.jump l J Q .normal a w = Q .normal a w := rfl
@[go_sem] theorem jump_exit (l id : Nat) : Exit.jump l J Q (.exit id) a w = Q (.exit id) a w := rfl
@[go_sem] theorem jump_ret (l : Nat) : Exit.jump l J Q .ret a w = Q .ret a w := rfl
@[go_sem] theorem jump_panic (l : Nat) (ch : List PanicEntry) : Exit.jump l J Q (.panic ch) a w = Q (.panic ch) a w := rfl
theorem jump_goto (l : Nat) (h : J a w) : Exit.jump l J Q (.goto l) a w := ⟨rfl, h⟩
theorem wp_scope_once {c rest : Code} (l : Nat) (hf : findLabel c l = some rest) (h : c.wp P (Exit.jump l (fun a w => rest.wp P (Exit.jump l (fun _ _ => False) Q) a w) Q) a w) : (Code.scope c).wp P Q a w := by
  refine wp_scope_jumps l _ (fun _ _ => 0) hf h fun a w hJ => ?_
  refine wp_mono hJ fun e a' w' he => ?_
  cases e with
  | goto l' => exact he.2.elim
  | _ => exact he
/-- A call that leaves all as it is, as one step of a region that draws. -/
theorem step_call {ops : Array Oper} {o : Oper} {K : Act → World → Prop} {f : FuncId} {args : Array Value} {v : Value} (hg : o.guard = none) (hrun : (execOp a.eval o).run P w = .ok (.enter f args) w)
    (hc : Calls P f args w (fun e w' => e = .returned v ∧ w = w')) (h : K (a.put o.dst v) w) : (if Region.wanted o (yielded ops a.tmps) = true then Oper.wp P o a w K Q else K (a.put o.dst undef) w) := by
  rw [if_pos (by simp [Region.wanted, hg])]
  unfold Oper.wp
  rw [hrun, Oper.upon_enter]
  refine hc.mono fun e w'' hh => ?_
  obtain ⟨rfl, rfl⟩ := hh
  exact h
end
end Go.Proofs.YtcdocklbpfdmeaaDoor

/- Climb, Includes. -/
set_option linter.unusedSimpArgs false
set_option linter.unusedVariables false
set_option maxRecDepth 20000
namespace Go.Proofs.YtcdocklbpfdmeaaDoor
open Go.RowKit
def climbOk (n i : Int) : Bool := decide (1 ≤ n ∧ n ≤ 1024 ∧ 0 ≤ i ∧ i < n)
/-- What is climbed to; nothing where there is no such leaf. -/
def ClimbD (n i : Int) (leaf : Dg) (p : List Dg) : Option Dg := if climbOk n i then climbD n.toNat i.toNat leaf p else none
def climbV (o : Option Dg) : Value := match o with | some x => .tuple #[.agg (rowB 32 (dF x)), .bool true] | none => .tuple #[.agg (rowB 32 fun _ => 0), .bool false]
theorem foldO_take (x : Dg) (R : List Bool) (p : List Dg) (k : Nat) (b : Bool) (d : Dg) (hR : R[k]? = some b) (hp : p[k]? = some d) : foldO x (R.take (k + 1)) (p.take (k + 1)) = overD b (foldO x (R.take k) (p.take k)) d := by
  have l1 := (List.getElem?_eq_some_iff.1 hR)
  have l2 := (List.getElem?_eq_some_iff.1 hp)
  obtain ⟨h1, e1⟩ := l1
  obtain ⟨h2, e2⟩ := l2
  rw [List.take_succ_eq_append_getElem h1, List.take_succ_eq_append_getElem h2, e1, e2]
  exact foldO_snoc _ _ _ _ _ (by rw [List.length_take, List.length_take]; omega)
abbrev wC (w : World) (x : Dg) : World := (w.alloc (.cells (rowB 32 (dF x)) 46)).alloc (.cells (rowB 32 fun _ => 0) 46)
theorem wC_size (w : World) (x : Dg) : (wC w x).heap.size = w.heap.size + 1 + 1 := by simp [wC, go_sem]
set_option maxHeartbeats 4000000 in
theorem climb_any {w0 : World} (G : Glob w0) (n i : Int) (leaf : Dg) (p : List Dg) (a : Option Addr) (c : Nat) : ∀ w, Ex w0 w → p.length ≤ c → c ≤ maxLen → SlD w a p →
    Calls Tryd.prog 86 #[I n, I i, .agg (rowB 32 (dF leaf)), .slice a p.length c] w (Post w (climbV (ClimbD n i leaf p))) := by
  intro w k hc hcm hs
  replace G := G.ex k
  clear k
  unfold maxLen at hcm
  by_cases hok : climbOk n i = true
  · have hr : ClimbD n i leaf p = climbD n.toNat i.toNat leaf p := if_pos hok
    rw [hr]
    unfold climbOk at hok
    rw [decide_eq_true_eq] at hok
    obtain ⟨N, rfl⟩ : ∃ N : Nat, n = N := ⟨n.toNat, by omega⟩
    obtain ⟨q, rfl⟩ : ∃ q : Nat, i = q := ⟨i.toNat, by omega⟩
    rw [Int.toNat_natCast, Int.toNat_natCast]
    clear hr
    have hsl := sides_len N N q rfl
    have hcd : climbD N q leaf p = if (sidesN N q).length = p.length then some (foldO leaf (sidesN N q).reverse p) else none := rfl
    have HS : Hid (∀ w', Calls Tryd.prog 124 #[I N, I q] w' (PostW w'.heap.size w' (sidesN N q))) := Lib.hid fun w' => sides_any N q w' (by omega) (by omega)
    generalize sidesN N q = S at HS hcd hsl
    have j1 : ¬ (N : Int) < 1 := by omega
    have j2 : ¬ (1024 : Int) < N := by omega
    have j3 : ¬ (q : Int) < 0 := by omega
    have j4 : ¬ (N : Int) ≤ q := by omega
    have t1 : decide ((N : Int) < 1) = false := decide_eq_false j1
    have t2 : decide ((1024 : Int) < N) = false := decide_eq_false j2
    have t3 : decide ((q : Int) < 0) = false := decide_eq_false j3
    have t4 : decide ((N : Int) ≤ q) = false := decide_eq_false j4
    have t5 : decide (N ≤ q) = false := decide_eq_false (by omega)
    have t6 : decide (N < 1) = false := decide_eq_false (by omega)
    by_cases hlen : S.length = p.length
    · rw [if_pos hlen] at hcd
      rw [hcd]
      clear hcd
      obtain ⟨L, hL⟩ : ∃ L, p.length = L := ⟨_, rfl⟩
      have HL : Hid (p.length = L) := Lib.hid hL
      have HSL : Hid (S.length = L) := Lib.hid (by omega)
      rw [hL] at hc ⊢
      rw [hlen, hL] at hsl
      clear hL hlen
      obtain ⟨R, hRd⟩ : ∃ R, S.reverse = R := ⟨_, rfl⟩
      have HRD : Hid (S.reverse = R) := Lib.hid hRd
      have HR : Hid (R.length = L) := Lib.hid (by rw [← hRd, List.length_reverse]; exact HSL.out)
      rw [hRd]
      clear hRd
      go_enter Tryd.func86, Tryd.ntmps86
      go_wp2
      go_step3
      go_wp2_with (first | (go_at_call 124; refine (HS.out _).mono ?_; rintro e w2 ⟨v, rfl, hown, X, rfl⟩; obtain ⟨sa, sc, hv, k1, k2, k3⟩ := own_form hown; rw [HSL.out] at hv k1; subst hv) | (go_at_call 125; refine (revb_any S _ _ hown (by rw [HSL.out]; omega)).mono ?_; rintro e w3 ⟨rfl, hown2, hbe⟩; obtain ⟨X2, rfl⟩ := exOf (A := wC w leaf) (by (try show Ex _ _); repeat (first | (with_reducible exact ex_refl _) | (with_reducible assumption) | (with_reducible refine ex_drewL ?_) | (with_reducible refine ex_appR ?_ _) | (with_reducible refine ex_wx ?_ _) | (with_reducible refine ex_drew ?_) | (with_reducible refine ex_alloc ?_ _))) hbe))
      rw [HRD.out] at hown2
      have HO0 : Hid (OwnB (wx (wC w leaf) X2) (wC w leaf).heap.size (.slice sa L sc) R) := Lib.hid hown2
      clear hown hown2 hbe HS HSL HRD k3 t1 t2 t3 t4 t5 t6
      go_loopw [40] (fun i W => ∃ (k : Nat) (X : More), k ≤ L ∧ i = I k ∧ W = wx (wC w (foldO leaf (R.take k) (p.take k))) X ∧ Hid (OwnB (wx (wC w leaf) X) (wC w leaf).heap.size (.slice sa L sc) R)) (fun i _ => L - (intOf i).toNat)
      case atStart => exact ⟨0, X2, by omega, rfl, rfl, HO0⟩
      case round =>
        obtain ⟨k, X, hk, rfl, rfl, HO⟩ := hrel
        by_cases hlt : k < L
        · obtain ⟨g, off, rfl, hg, hcell⟩ := hs.pos (by rw [HL.out]; omega)
          obtain ⟨d, hd⟩ : ∃ d, p[k]? = some d := ⟨_, List.getElem?_eq_getElem (by rw [HL.out]; omega)⟩
          obtain ⟨b, hb⟩ : ∃ b, R[k]? = some b := ⟨_, List.getElem?_eq_getElem (by rw [HR.out]; omega)⟩
          have h1 := hcell k d hd
          obtain ⟨qq, cap, cur, hv, hz, _, _, hcur⟩ := ownb_at HO.out (by rw [HR.out]; omega)
          obtain ⟨rfl, hLR, rfl⟩ : sa = some ⟨(wC w leaf).heap.size + qq, 0, none⟩ ∧ L = R.length ∧ sc = cap := by simpa using hv
          have hcb := hcur k b hb
          have HX := Lib.hid (foldO_take leaf R p k b d hb hd)
          rw [wC_size]
          rw [wC_size] at HO hv
          generalize foldO leaf (R.take k) (p.take k) = x at HX ⊢
          have hzl : qq < X.blocks.length := (List.getElem?_eq_some_iff.1 hz).1
          have hg2 : g < w.heap.size + 1 := by omega
          have hg3 : g < w.heap.size + 1 + 1 := by omega
          have HOV : Hid (∀ w', Ex w w' → Calls Tryd.prog 126 #[.bool b, .agg (rowB 32 (dF x)), .agg (rowB 32 (dF d))] w' (Post w' (.agg (rowB 32 (dF (overD b x d)))))) := Lib.hid fun w' k => over_any G b x d w' k
          clear hcell hcur hd hb hv hs hLR
          go_wp2
          refine wp_region_mix [(0, true), (1, true), (2, true), (3, true), (4, true), (5, true), (6, false)] 7 (by kernel_rfl) (by kernel_rfl) (fun _ _ d _ _ h => by cases d <;> exact h) ?_
          simp only [List.map_cons, List.map_nil, nth, List.drop_succ_cons, List.drop_zero]
          repeat (first | (refine wpMix_look ?_; go_big_quiet_step (fail); refine wpQuiet_nil ?_) | (refine wpMix_eff rfl (fun X1 => ?_); go_wp2_with (go_at_call 126; refine (HOV.out _ (by (try show Ex _ _); repeat (first | (with_reducible exact ex_refl _) | (with_reducible assumption) | (with_reducible refine ex_drewL ?_) | (with_reducible refine ex_appR ?_ _) | (with_reducible refine ex_wx ?_ _) | (with_reducible refine ex_drew ?_) | (with_reducible refine ex_alloc ?_ _)))).mono ?_; rintro e w2 ⟨rfl, X5, rfl⟩); refine mixQ_mk (by first | exact ex_refl _ | exact ⟨_, rfl⟩ | exact ex_app _ _ _ | (simp only [wx_wx, wx_drew]; first | exact ex_refl _ | exact ex_app _ _ _ | exact ⟨_, rfl⟩) | (repeat (first | exact ex_refl _ | refine ex_drew ?_ | refine ex_alloc ?_ _ | refine ex_wx ?_ _))) ?_))
          refine wpMix_nil (fun X2 => ?_)
          go_wp2
          refine ⟨⟨k + 1, ((X.app X1).app X5).app X2, by omega, by go_num, ?_, Lib.hid (OwnB.ex HO.out (by (try show Ex _ _); repeat (first | (with_reducible exact ex_refl _) | (with_reducible assumption) | (with_reducible refine ex_drewL ?_) | (with_reducible refine ex_appR ?_ _) | (with_reducible refine ex_wx ?_ _) | (with_reducible refine ex_drew ?_) | (with_reducible refine ex_alloc ?_ _))))⟩, by simp [intOf]; omega⟩
          rw [HX.out]
        · have hx : foldO leaf (R.take k) (p.take k) = foldO leaf R p := by
            rw [List.take_of_length_le (by rw [HR.out]; omega), List.take_of_length_le (by rw [HL.out]; omega)]
          rw [hx]
          obtain rfl : k = L := by omega
          clear hlt hk hx HO HO0 hs
          go_wp2
          exact ret_rowV (cs := rowB 32 (dF (foldO leaf R p))) (v := .bool true) Tryd.results86 Tryd.underlying46 rfl info_id rfl (by simp [go_sem]) rfl rfl (post_mk rfl (by (try show Ex _ _); repeat (first | (with_reducible exact ex_refl _) | (with_reducible assumption) | (with_reducible refine ex_drewL ?_) | (with_reducible refine ex_appR ?_ _) | (with_reducible refine ex_wx ?_ _) | (with_reducible refine ex_drew ?_) | (with_reducible refine ex_alloc ?_ _))))
    · rw [if_neg hlen] at hcd
      rw [hcd]
      clear hcd
      have hb : ((S.length : Int) == p.length) = false := beq_eq_false_iff_ne.2 (by omega)
      obtain ⟨L, hL⟩ : ∃ L, p.length = L := ⟨_, rfl⟩
      obtain ⟨L2, hL2⟩ : ∃ L2, S.length = L2 := ⟨_, rfl⟩
      have HSL : Hid (S.length = L2) := Lib.hid hL2
      rw [hL] at hc hb ⊢
      rw [hL2] at hb hsl
      have hb2 : (L2 == L) = false := beq_eq_false_iff_ne.2 (by omega)
      clear hL hlen hL2 hs
      go_enter Tryd.func86, Tryd.ntmps86
      go_wp2
      refine wp_scope_once 0 (by rfl) ?_
      go_wp2_with (go_at_call 124; refine (HS.out _).mono ?_; rintro e w2 ⟨v, rfl, hown, X, rfl⟩; obtain ⟨sa, sc, hv, k1, k2, k3⟩ := own_form hown; rw [HSL.out] at hv k1; subst hv)
      go_step3
      refine ⟨rfl, ?_⟩
      go_wp2
      exact ret_rowV (cs := rowB 32 fun _ => 0) (v := .bool false) Tryd.results86 Tryd.underlying46 rfl info_id rfl (by simp [go_sem]) rfl rfl (post_mk rfl (by (try show Ex _ _); repeat (first | (with_reducible exact ex_refl _) | (with_reducible assumption) | (with_reducible refine ex_drewL ?_) | (with_reducible refine ex_appR ?_ _) | (with_reducible refine ex_wx ?_ _) | (with_reducible refine ex_drew ?_) | (with_reducible refine ex_alloc ?_ _))))
  · have hr : ClimbD n i leaf p = none := if_neg hok
    rw [hr]
    unfold climbOk at hok
    have hw : n < 1 ∨ (1 ≤ n ∧ 1024 < n) ∨ (1 ≤ n ∧ n ≤ 1024 ∧ i < 0) ∨ (1 ≤ n ∧ n ≤ 1024 ∧ 0 ≤ i ∧ n ≤ i) := by
      rw [decide_eq_true_eq] at hok; omega
    clear hok hr hs
    generalize p.length = L at hc ⊢
    rcases hw with hw | ⟨hw1, hw⟩ | ⟨hw1, hw2, hw⟩ | ⟨hw1, hw2, hw3, hw⟩
    all_goals
      go_enter Tryd.func86, Tryd.ntmps86
      go_wp2
      refine wp_scope_once 0 (by rfl) ?_
      go_wp2
      go_step3
      refine ⟨rfl, ?_⟩
      go_wp2
      exact ret_rowV (cs := rowB 32 fun _ => 0) (v := .bool false) Tryd.results86 Tryd.underlying46 rfl info_id rfl (by simp [go_sem]) rfl rfl (post_mk rfl (by (try show Ex _ _); repeat (first | (with_reducible exact ex_refl _) | (with_reducible assumption) | (with_reducible refine ex_drewL ?_) | (with_reducible refine ex_appR ?_ _) | (with_reducible refine ex_wx ?_ _) | (with_reducible refine ex_drew ?_) | (with_reducible refine ex_alloc ?_ _))))
end Go.Proofs.YtcdocklbpfdmeaaDoor

/- Includes. -/
set_option linter.unusedSimpArgs false
set_option linter.unusedVariables false
set_option maxRecDepth 20000
namespace Go.Proofs.YtcdocklbpfdmeaaDoor
open Go.RowKit
theorem row_zero : rowB 32 (dF zeroD) = rowB 32 fun _ => 0 := rowB_congr fun i hi => dF_ofF _ i hi
set_option maxHeartbeats 1000000 in
theorem includes_any {w0 : World} (G : Glob w0) (r : Dg) (n i : Int) (leaf : Dg) (p : List Dg) (a : Option Addr) (c : Nat) : ∀ w, Ex w0 w → p.length ≤ c → c ≤ maxLen → SlD w a p →
    Calls Tryd.prog 49 #[.agg (rowB 32 (dF r)), I n, I i, .agg (rowB 32 (dF leaf)), .slice a p.length c] w (Post w (.bool (decide (ClimbD n i leaf p = some r)))) := by
  intro w k hc hcm hs
  replace G := G.ex k
  clear k
  have HC : Hid (∀ w', Ex w w' → Calls Tryd.prog 86 #[I n, I i, .agg (rowB 32 (dF leaf)), .slice a p.length c] w' (Post w' (climbV (ClimbD n i leaf p)))) := Lib.hid fun w' k => climb_any G n i leaf p a c w' k hc hcm (hs.ex k)
  generalize ClimbD n i leaf p = o at HC ⊢
  generalize p.length = L at HC hc ⊢
  clear hs
  cases o with
  | none =>
    have HC2 : Hid (∀ w', Ex w w' → Calls Tryd.prog 86 #[I n, I i, .agg (rowB 32 (dF leaf)), .slice a L c] w' (Post w' (.tuple #[.agg (rowB 32 fun _ => 0), .bool false]))) := HC
    have hd : decide ((none : Option Dg) = some r) = false := rfl
    rw [hd]
    go_enter Tryd.func49, Tryd.ntmps49
    go_wp2_with (go_at_call 86; (with_reducible refine (HC2.out _ (by (try show Ex _ _); repeat (first | (with_reducible exact ex_refl _) | (with_reducible assumption) | (with_reducible refine ex_drewL ?_) | (with_reducible refine ex_appR ?_ _) | (with_reducible refine ex_wx ?_ _) | (with_reducible refine ex_drew ?_) | (with_reducible refine ex_alloc ?_ _)))).mono ?_); rintro e w2 ⟨rfl, X, rfl⟩)
    go_ret
    exact post_mk rfl (by (try show Ex _ _); repeat (first | (with_reducible exact ex_refl _) | (with_reducible assumption) | (with_reducible refine ex_drewL ?_) | (with_reducible refine ex_appR ?_ _) | (with_reducible refine ex_wx ?_ _) | (with_reducible refine ex_drew ?_) | (with_reducible refine ex_alloc ?_ _)))
  | some x =>
    have HC2 : Hid (∀ w', Ex w w' → Calls Tryd.prog 86 #[I n, I i, .agg (rowB 32 (dF leaf)), .slice a L c] w' (Post w' (.tuple #[.agg (rowB 32 (dF x)), .bool true]))) := HC
    have hd : decide (some x = some r) = decide (x = r) := by simp
    rw [hd]
    have he := eqD x r
    generalize decide (x = r) = b at he ⊢
    go_enter Tryd.func49, Tryd.ntmps49
    go_wp2_with (go_at_call 86; (with_reducible refine (HC2.out _ (by (try show Ex _ _); repeat (first | (with_reducible exact ex_refl _) | (with_reducible assumption) | (with_reducible refine ex_drewL ?_) | (with_reducible refine ex_appR ?_ _) | (with_reducible refine ex_wx ?_ _) | (with_reducible refine ex_drew ?_) | (with_reducible refine ex_alloc ?_ _)))).mono ?_); rintro e w2 ⟨rfl, X, rfl⟩)
    go_ret
    exact post_mk rfl (by (try show Ex _ _); repeat (first | (with_reducible exact ex_refl _) | (with_reducible assumption) | (with_reducible refine ex_drewL ?_) | (with_reducible refine ex_appR ?_ _) | (with_reducible refine ex_wx ?_ _) | (with_reducible refine ex_drew ?_) | (with_reducible refine ex_alloc ?_ _)))
end Go.Proofs.YtcdocklbpfdmeaaDoor

/- wakes of the history: it does something. -/
set_option linter.unusedSimpArgs false
set_option linter.unusedVariables false
set_option maxRecDepth 20000
namespace Go.Proofs.YtcdocklbpfdmeaaDoor
open Go.RowKit
@[go_sem] theorem lit_u1 : Value.agg #[.int .u8 1, .int .u8 0, .int .u8 0, .int .u8 0, .int .u8 0, .int .u8 0, .int .u8 0, .int .u8 0, .int .u8 0, .int .u8 0, .int .u8 0, .int .u8 0, .int .u8 0, .int .u8 0, .int .u8 0, .int .u8 0, .int .u8 0, .int .u8 0, .int .u8 0, .int .u8 0, .int .u8 0, .int .u8 0, .int .u8 0, .int .u8 0, .int .u8 0, .int .u8 0, .int .u8 0, .int .u8 0, .int .u8 0, .int .u8 0, .int .u8 0, .int .u8 0] = .agg (rowB 32 (dF (unitD 1))) := by kernel_rfl
@[go_sem] theorem lit_u2 : Value.agg #[.int .u8 2, .int .u8 0, .int .u8 0, .int .u8 0, .int .u8 0, .int .u8 0, .int .u8 0, .int .u8 0, .int .u8 0, .int .u8 0, .int .u8 0, .int .u8 0, .int .u8 0, .int .u8 0, .int .u8 0, .int .u8 0, .int .u8 0, .int .u8 0, .int .u8 0, .int .u8 0, .int .u8 0, .int .u8 0, .int .u8 0, .int .u8 0, .int .u8 0, .int .u8 0, .int .u8 0, .int .u8 0, .int .u8 0, .int .u8 0, .int .u8 0, .int .u8 0] = .agg (rowB 32 (dF (unitD 2))) := by kernel_rfl
@[go_sem] theorem lit_u3 : Value.agg #[.int .u8 3, .int .u8 0, .int .u8 0, .int .u8 0, .int .u8 0, .int .u8 0, .int .u8 0, .int .u8 0, .int .u8 0, .int .u8 0, .int .u8 0, .int .u8 0, .int .u8 0, .int .u8 0, .int .u8 0, .int .u8 0, .int .u8 0, .int .u8 0, .int .u8 0, .int .u8 0, .int .u8 0, .int .u8 0, .int .u8 0, .int .u8 0, .int .u8 0, .int .u8 0, .int .u8 0, .int .u8 0, .int .u8 0, .int .u8 0, .int .u8 0, .int .u8 0] = .agg (rowB 32 (dF (unitD 3))) := by kernel_rfl
def buildRun3 (P : Program) (t : TypeId) (x y z : Value) (w : World) : Result Next := ((Instr.buildSlice t 3 #[(0, x), (1, y), (2, z)]).run P w).andThen fun x w' => .ok (.value x) w'
@[go_sem ↓ high] theorem run_build3_pre {P : Program} (ρ : Operand → Value) (d : Option Tmp) (t : TypeId) (x y z : Operand) (ty : TypeId) (pos : String) (aft : Array Edge) (g : Option (Nat × Bool)) (w : World) :
    Sem.run P (execOp ρ ⟨d, .buildSlice t 3 #[(0, x), (1, y), (2, z)], ty, pos, aft, g⟩) w = buildRun3 P t (ρ x) (ρ y) (ρ z) w := by
  simp only [execOp, Sem.run_bind, Sem.run_pure, buildRun3, List.map_toArray, List.map_cons, List.map_nil]
@[go_sem low] theorem buildRun3_other {P : Program} (t : TypeId) (x y z : Value) (w : World) : buildRun3 P t x y z w = ((Instr.buildSlice t 3 #[(0, x), (1, y), (2, z)]).run P w).andThen fun x w' => .ok (.value x) w' := rfl
def C3 (a b c : Dg) : Array Value := rowB 32 (dF a) ++ rowB 32 (dF b) ++ rowB 32 (dF c)
theorem buildRun3_id (a b c : Dg) (w : World) : buildRun3 Tryd.prog 25 (.agg (rowB 32 (dF a))) (.agg (rowB 32 (dF b))) (.agg (rowB 32 (dF c))) w = .ok (.value (.slice (some ⟨w.heap.size, 0, none⟩) 3 3)) (w.alloc (.cells (C3 a b c) 46)) := by
  unfold buildRun3
  have hi : (Tryd.prog.info? 46).map (fun i => (i.zero, i.size)) = some (some (.agg (rowB 32 fun _ => 0)), 32) := by kernel_rfl
  obtain ⟨i, hi1, hi2⟩ := Option.map_eq_some_iff.1 hi
  simp only [Prod.mk.injEq] at hi2
  simp [Instr.buildSlice, run_underlying Tryd.underlying25, Go.sizeOf, typeInfo, zeroValue, hi1, hi2.1, hi2.2, Instr.fill, Value.cells, newRow, rowB_size]
  generalize hX : (if _ < 64 then none else _) = X
  have hX2 : X = some (C3 a b c) := by
    rw [← hX]; kernel_rfl
  rw [hX2]
  simp [newObj]
  rfl
attribute [go_sem] buildRun3_id
theorem C3_size (a b c : Dg) : (C3 a b c).size = 96 := by simp [C3]
theorem C3_get (a b c : Dg) (j : Nat) : (C3 a b c)[j]? = if j < 32 then some (B (dF a j)) else if j < 64 then some (B (dF b (j - 32))) else if j < 96 then some (B (dF c (j - 64))) else none := by
  unfold C3
  rw [Array.getElem?_append, Array.getElem?_append]
  simp only [Array.size_append, rowB_size, rowB_get]
  by_cases h1 : j < 32
  · rw [if_pos (by omega), if_pos h1, if_pos h1, if_pos h1]
  · by_cases h2 : j < 64
    · rw [if_pos (by omega), if_neg h1, if_pos (by omega), if_neg h1, if_pos h2]
    · rw [if_neg (by omega), if_neg h1, if_neg h2]
      by_cases h3 : j < 96
      · rw [if_pos (by omega), if_pos h3]
      · rw [if_neg (by omega), if_neg h3]
theorem C3_ext0 (a b c : Dg) : (C3 a b c).extract 0 32 = rowB 32 (dF a) := by
  apply arr_ext; intro j
  rw [Array.getElem?_extract, C3_size, C3_get, rowB_get]
  by_cases h : j < 32
  · rw [if_pos (by omega), if_pos (by omega), if_pos h, Nat.zero_add]
  · rw [if_neg (by omega), if_neg h]
theorem C3_ext1 (a b c : Dg) : (C3 a b c).extract 32 64 = rowB 32 (dF b) := by
  apply arr_ext; intro j
  rw [Array.getElem?_extract, C3_size, C3_get, rowB_get]
  by_cases h : j < 32
  · rw [if_pos (by omega), if_neg (by omega), if_pos (by omega), if_pos h, Nat.add_sub_cancel_left]
  · rw [if_neg (by omega), if_neg h]
theorem C3_ext2 (a b c : Dg) : (C3 a b c).extract 64 96 = rowB 32 (dF c) := by
  apply arr_ext; intro j
  rw [Array.getElem?_extract, C3_size, C3_get, rowB_get]
  by_cases h : j < 32
  · rw [if_pos (by omega), if_neg (by omega), if_neg (by omega), if_pos (by omega), if_pos h, Nat.add_sub_cancel_left]
  · rw [if_neg (by omega), if_neg h]
theorem sld_three {w w' : World} (k : Ex (w.alloc (.cells (C3 (unitD 1) (unitD 2) (unitD 3)) 46)) w') : SlD w' (some ⟨w.heap.size, 0, none⟩) three := by
  refine SlD.ex ⟨Or.inr ⟨_, 0, rfl, by simp [go_sem], fun i d hd => ?_⟩⟩ k
  have h3 : i = 0 ∨ i = 1 ∨ i = 2 := by
    have := (List.getElem?_eq_some_iff.1 hd).1
    have h : three.length = 3 := rfl
    omega
  rw [cellsN_alloc, if_neg (by omega), if_pos rfl]
  rcases h3 with rfl | rfl | rfl
  · obtain rfl : unitD 1 = d := by simpa [three] using hd
    rw [if_pos (by rw [C3_size]; omega)]; exact congrArg some (C3_ext0 _ _ _)
  · obtain rfl : unitD 2 = d := by simpa [three] using hd
    rw [if_pos (by rw [C3_size]; omega)]; exact congrArg some (C3_ext1 _ _ _)
  · obtain rfl : unitD 3 = d := by simpa [three] using hd
    rw [if_pos (by rw [C3_size]; omega)]; exact congrArg some (C3_ext2 _ _ _)
/-- Digests that were made, with their number. -/
def PostN (W : World) (n : Nat) (l : List Dg) (e : Ending) (w' : World) : Prop := ∃ pa pc, e = .returned (.tuple #[.slice pa n pc, I 0]) ∧ n ≤ pc ∧ pc ≤ maxLen ∧ (pa = none → pc = 0) ∧ SlD w' pa l ∧ ∃ X, w' = wx W X
theorem postN {W : World} {n : Nat} {l : List Dg} (hn : l.length = n) (e : Ending) (w' : World) (h : PostO2 W l e w') : PostN W n l e w' := by
  obtain ⟨v, rfl, hown, hx⟩ := h
  obtain ⟨a, c, rfl, h1, h2, h3, h4⟩ := hown.slg
  subst hn
  exact ⟨a, c, rfl, h1, h2, h3, h4, hx⟩
end Go.Proofs.YtcdocklbpfdmeaaDoor

/- short; Clone of digests. -/
set_option linter.unusedSimpArgs false
set_option linter.unusedVariables false
set_option maxRecDepth 20000
namespace Go.Proofs.YtcdocklbpfdmeaaDoor
open Go.RowKit
theorem wpAppS {ops : Array Oper} {rest : List Oper} {o : Oper} {a : Act} {w : World} {Q : Exit → Act → World → Prop} (s x : Operand) (hgd : o.guard = none)
    (ho : o.op = .call { callee := .builtin .append, args := #[s, x], argTypes := #[25, 25] })
    {Z : Nat} {v : Value} {l r : List Dg} {ad : Addr} {m c : Nat} (hown : OwnD w Z v l) (hs : a.eval s = v) (hx : a.eval x = .slice (some ad) m c) (hm : m = r.length) (hr : SlD w (some ad) r) (hlen : l.length + r.length ≤ 1000000) (hZ : Z ≤ w.heap.size)
    (h : ∀ v' w', OwnD w' Z v' (l ++ r) → Below Z w w' → wpList Tryd.prog ops Q rest (a.put o.dst v') w') : wpList Tryd.prog ops Q (o :: rest) a w := by
  rcases hr.out with rfl | ⟨g, off, hg, _, _⟩
  · subst hm
    refine wpApp appId s x hgd ho hown hs ad 0 c [] hx rfl (fun j u hj => by simp at hj) (fun u hu => by cases hu) (by unfold maxLen; omega) (by omega) hZ fun v' w' k1 k2 => ?_
    rw [List.append_nil] at k1
    exact h v' w' (by rw [List.append_nil]; exact k1) k2
  · cases hg
    exact wpAppD s x hgd ho hown hs hx hm hr hlen hZ h
/-- An empty row, new. -/
theorem ownd_empty {w w' : World} {Z : Nat} {v : Value} (k : Ex (w.alloc (.cells #[] 46)) w') (hv : v = .slice (some ⟨w.heap.size, 0, none⟩) 0 0) (hZ : Z ≤ w.heap.size) : OwnD w' Z v [] := by
  subst hv
  exact owns_ex (owns_new (n := 0) (cap := 0) rfl hZ (by omega) (by decide) (by simp) (by simp)) k
@[go_sem high] theorem eqlnil_id (a : Option Addr) (n c : Nat) (w : World) : (binOp .eql 25 (.slice a n c) (.slice none 0 0)).run Tryd.prog w = .ok (.bool a.isNone) w := _root_.Go.run_eql_slice_nil w _ _ a n c Tryd.underlying25
end Go.Proofs.YtcdocklbpfdmeaaDoor

/- Slices of pairs; what goes through them. -/
set_option linter.unusedSimpArgs false
set_option linter.unusedVariables false
set_option maxRecDepth 20000
namespace Go.Proofs.YtcdocklbpfdmeaaDoor
open Go.RowKit
def PC (p : Pr) : Array Value := #[.string p.1, .string p.2]
theorem PC_size (p : Pr) : (PC p).size = 2 := rfl
structure SlP (w : World) (a : Option Addr) (l : List Pr) : Prop where
  out : l = [] ∨ ∃ g off, a = some ⟨g, off, none⟩ ∧ g < w.heap.size ∧ ∀ i d, l[i]? = some d → cellsN w g (off + i * 2) 2 = some (PC d)
theorem SlP.ex {w w' : World} {a : Option Addr} {l : List Pr} (h : SlP w a l) (k : Ex w w') : SlP w' a l := by
  obtain ⟨X, rfl⟩ := k
  rcases h.out with h | ⟨g, off, h1, h2, h3⟩
  · exact ⟨Or.inl h⟩
  · refine ⟨Or.inr ⟨g, off, h1, by rw [wx_size]; omega, fun i d hd => ?_⟩⟩
    rw [cellsN_congr fun j _ => wx_cell w X _ h2]; exact h3 i d hd
theorem SlP.pos {w : World} {a : Option Addr} {l : List Pr} (h : SlP w a l) (hn : 0 < l.length) : ∃ g off, a = some ⟨g, off, none⟩ ∧ g < w.heap.size ∧ ∀ i d, l[i]? = some d → cellsN w g (off + i * 2) 2 = some (PC d) := by
  rcases h.out with rfl | h
  · simp at hn
  · exact h
theorem SlP.nil (w : World) (a : Option Addr) : SlP w a [] := ⟨Or.inl rfl⟩
theorem SlP.take {w : World} {a : Option Addr} {l : List Pr} (h : SlP w a l) (k : Nat) : SlP w a (l.take k) := by
  rcases h.out with rfl | ⟨g, off, h1, h2, h3⟩
  · exact ⟨Or.inl (by simp)⟩
  · refine ⟨Or.inr ⟨g, off, h1, h2, fun i d hd => ?_⟩⟩
    rw [List.getElem?_take] at hd
    split at hd
    · exact h3 i d hd
    · cases hd
theorem SlP.drop {w : World} {g off : Nat} {l : List Pr} (h : SlP w (some ⟨g, off, none⟩) l) (k : Nat) : SlP w (some ⟨g, off + k * 2, none⟩) (l.drop k) := by
  rcases h.out with rfl | ⟨g', off', h1, h2, h3⟩
  · exact ⟨Or.inl (by simp)⟩
  · cases h1
    refine ⟨Or.inr ⟨g, _, rfl, h2, fun i d hd => ?_⟩⟩
    rw [List.getElem?_drop] at hd
    rw [Nat.add_assoc, ← Nat.add_mul]
    exact h3 _ d hd
theorem SlP.at {w : World} {g off : Nat} {l : List Pr} (h : SlP w (some ⟨g, off, none⟩) l) {i : Nat} {d : Pr} (hd : l[i]? = some d) : cellsN w g (off + i * 2) 2 = some (PC d) ∧ g < w.heap.size := by
  rcases h.out with rfl | ⟨g', off', h1, h2, h3⟩
  · simp at hd
  · cases h1; exact ⟨h3 i d hd, h2⟩
theorem prAt_get {l : List Pr} {i : Nat} (h : i < l.length) : l[i]? = some (prAt l i) := by
  unfold prAt; rw [List.getD_eq_getElem?_getD, List.getElem?_eq_getElem h]; rfl
theorem SlP.row {w : World} {a : Option Addr} {l : List Pr} (h : SlP w a l) {i : Nat} (hi : i < l.length) : ∃ g off, a = some ⟨g, off, none⟩ ∧ g < w.heap.size ∧ cellsN w g (off + i * 2) 2 = some (PC (prAt l i)) ∧
    w.cell? ⟨g, off + i * 2, none⟩ = some (.string (prAt l i).1) ∧ w.cell? ⟨g, off + i * 2 + 1, none⟩ = some (.string (prAt l i).2) := by
  obtain ⟨g, off, h1, h2, h3⟩ := h.pos (by omega)
  have h4 := h3 i _ (prAt_get hi)
  have h5 := (cellsN_some.1 h4).2
  exact ⟨g, off, h1, h2, h4, (by have := h5 0 (by omega); simpa [PC] using this), (by have := h5 1 (by omega); simpa [PC] using this)⟩
def KP (p : Pr) : List Value := [.string p.1, .string p.2]
theorem KP_len (p : Pr) : (KP p).length = 2 := rfl
@[go_sem] theorem KP_back (p : Pr) : (KP p).toArray = PC p := rfl
/-- A row of pairs of the call's own. -/
def OwnP (w : World) (Z : Nat) (v : Value) (l : List Pr) : Prop := w.ownsRow Z 42 2 v l.length (l.flatMap KP)
theorem appCell : AppT Tryd.prog 22 42 2 32 (.agg #[.string ⟨#[]⟩, .string ⟨#[]⟩]) := ⟨Tryd.underlying22, by kernel_rfl, by simp [Value.cells], by decide⟩
theorem KP_one (l : List Pr) : ∀ u ∈ l.flatMap KP, u.oneCell' = true := by
  intro u hu
  simp only [List.mem_flatMap] at hu
  obtain ⟨d, _, hd⟩ := hu
  rcases (by simpa [KP] using hd : u = .string d.1 ∨ u = .string d.2) with rfl | rfl <;> rfl
theorem slp_news {w : World} {g off : Nat} {r : List Pr} (h : SlP w (some ⟨g, off, none⟩) r) : ∀ (j : Nat) (u : Value), (r.flatMap KP)[j]? = some u → w.cell? ((⟨g, off, none⟩ : Addr).add j) = some u := by
  intro j u hj
  have hlt : j < r.length * 2 := by
    have := (List.getElem?_eq_some_iff.1 hj).1
    rwa [flat_len KP_len] at this
  have hadd : (⟨g, off, none⟩ : Addr).add j = ⟨g, off + j, none⟩ := by unfold Addr.add; split <;> simp_all
  have hi : r[j / 2]? = some (r[j / 2]'(by omega)) := List.getElem?_eq_getElem _
  have h1 := (h.at hi).1
  have h2 := flat_get KP_len r (j / 2) _ (j % 2) hi (by omega)
  rw [show j / 2 * 2 + j % 2 = j by omega, hj] at h2
  have h3 := (cellsN_some.1 h1).2 (j % 2) (by omega)
  rw [hadd, show off + j = off + j / 2 * 2 + j % 2 by omega, h3, ← KP_back, List.getElem?_toArray]
  exact h2.symm
theorem wpAppP {ops : Array Oper} {rest : List Oper} {o : Oper} {a : Act} {w : World} {Q : Exit → Act → World → Prop} (s x : Operand) (hgd : o.guard = none)
    (ho : o.op = .call { callee := .builtin .append, args := #[s, x], argTypes := #[22, 22] })
    {Z : Nat} {v : Value} {l r : List Pr} {ad : Addr} {m c : Nat} (hown : OwnP w Z v l) (hs : a.eval s = v) (hx : a.eval x = .slice (some ad) m c) (hm : m = r.length) (hr : SlP w (some ad) r) (hlen : l.length + r.length ≤ 1000000) (hZ : Z ≤ w.heap.size)
    (h : ∀ v' w', OwnP w' Z v' (l ++ r) → Below Z w w' → wpList Tryd.prog ops Q rest (a.put o.dst v') w') : wpList Tryd.prog ops Q (o :: rest) a w := by
  subst hm
  refine wpApp appCell s x hgd ho hown hs ad r.length c (r.flatMap KP) hx (flat_len KP_len r) ?_ (KP_one r) (by unfold maxLen; omega) (by omega) hZ fun v' w' k1 k2 => ?_
  · rcases hr.out with rfl | ⟨g, off, hg, _, _⟩
    · intro j u hj; simp at hj
    · cases hg; exact slp_news hr
  · rw [← List.flatMap_append, ← List.length_append] at k1
    exact h v' w' k1 k2
theorem ownp_nil (w : World) (Z : Nat) : OwnP w Z (.slice none 0 0) [] := owns_nil _ _ _ _
theorem OwnP.ex {w w' : World} {Z : Nat} {v : Value} {l : List Pr} (h : OwnP w Z v l) (k : Ex w w') : OwnP w' Z v l := owns_ex h k
theorem ownp_empty {w w' : World} {Z : Nat} {v : Value} (k : Ex (w.alloc (.cells #[] 42)) w') (hv : v = .slice (some ⟨w.heap.size, 0, none⟩) 0 0) (hZ : Z ≤ w.heap.size) : OwnP w' Z v [] := by
  subst hv
  exact owns_ex (owns_new (n := 0) (cap := 0) rfl hZ (by omega) (by decide) (by simp) (by simp)) k
theorem OwnP.slg {w : World} {Z : Nat} {v : Value} {l : List Pr} (h : OwnP w Z v l) : ∃ a c, v = .slice a l.length c ∧ l.length ≤ c ∧ c ≤ maxLen ∧ (a = none → c = 0) ∧ SlP w a l := by
  obtain ⟨a, c, rfl, k1, k2, k3⟩ := own_form h
  refine ⟨a, c, rfl, k1, k2, k3, ?_⟩
  rcases Nat.eq_zero_or_pos l.length with h0 | hpos
  · rw [List.eq_nil_of_length_eq_zero h0]; exact SlP.nil _ _
  · obtain ⟨g, cap, cur, hv, _⟩ := own_block h hpos (by omega)
    obtain ⟨rfl, rfl⟩ : a = some ⟨g, 0, none⟩ ∧ c = cap := by simpa using hv
    refine ⟨Or.inr ⟨g, 0, rfl, (h.lt g rfl).2, fun i d hd => ?_⟩⟩
    have := (own_at KP_len h hd).1
    rw [KP_back] at this
    rwa [Nat.zero_add]
def overP (l : List Pr) : Bool := decide (300 < l.length) || l.any fun p => decide (3000 < p.1.size) || decide (3000 < p.2.size)
theorem overP_bad {l : List Pr} {i : Nat} (hi : i < l.length) (h : 3000 < (prAt l i).1.size ∨ 3000 < (prAt l i).2.size) : overP l = true := by
  have hm : prAt l i ∈ l := List.mem_of_getElem? (prAt_get hi)
  simp only [overP, Bool.or_eq_true, List.any_eq_true, decide_eq_true_eq]
  exact .inr ⟨_, hm, h⟩
theorem overP_ok {l : List Pr} (h : l.length ≤ 300) (h2 : ∀ i, i < l.length → (prAt l i).1.size ≤ 3000 ∧ (prAt l i).2.size ≤ 3000) : overP l = false := by
  simp only [overP, Bool.or_eq_false_iff, decide_eq_false_iff_not, List.any_eq_false, Bool.or_eq_true, decide_eq_true_eq]
  refine ⟨by omega, fun p hp => ?_⟩
  obtain ⟨i, hi⟩ := List.mem_iff_getElem?.1 hp
  have hl := (List.getElem?_eq_some_iff.1 hi).1
  rw [prAt_get hl] at hi
  obtain rfl := Option.some.inj hi
  have := h2 i hl
  omega
end Go.Proofs.YtcdocklbpfdmeaaDoor
