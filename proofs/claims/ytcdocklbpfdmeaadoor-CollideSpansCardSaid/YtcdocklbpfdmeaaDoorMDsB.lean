import Derived.Test.YtcdocklbpfdmeaaDoorMSpJ
import Derived.Test.YtcdocklbpfdmeaaDoorMGwG
import Derived.Test.YtcdocklbpfdmeaaDoorMSpF

/- Collide's document: the top of a span, outside the pairs. -/
set_option linter.unusedSimpArgs false
set_option linter.unusedVariables false
set_option linter.unnecessarySimpa false
set_option maxRecDepth 20000
namespace Go.Proofs.YtcdocklbpfdmeaaDoor
open Go.RowKit
theorem info_spanD : (Tryd.prog.info? 27).map (·.size) = some 4 := by kernel_rfl
@[go_sem] theorem load_spanD (b o : Nat) (w : World) : loadRun Tryd.prog 27 (.pointer (some ⟨b, o, none⟩)) w = match cellsN w b o 4 with | some cs => .ok (.value (.agg cs)) w | none => loadRaw Tryd.prog 27 (.pointer (some ⟨b, o, none⟩)) w := loadRun_row Tryd.underlying27 rfl info_spanD b o w
@[go_sem] theorem store_spanD (b o : Nat) (vs : Array Value) (w : World) : storeRun Tryd.prog 27 (.pointer (some ⟨b, o, none⟩)) (.agg vs) w = if (vs.size == 4 && (cellsN w b o 4).isSome && !frozenN w b o 4 && oneCells vs) = true then .ok .skip (w.setCells b o vs.toList) else storeRaw Tryd.prog 27 (.pointer (some ⟨b, o, none⟩)) (.agg vs) w := storeRun_row info_spanD b o vs w
/-- The variable that holds what is left of the path. -/
structure Qd (A w : World) (q : Nat) (qs : List Dg) : Prop where
  out : ∃ qa qc, w.heap[q]? = some (.cells #[.slice qa qs.length qc] 25 (0, 0)) ∧ qs.length ≤ qc ∧ qc ≤ maxLen ∧ SlD A qa qs
theorem Qd.frm {A w w' : World} {q : Nat} {qs : List Dg} {P : Nat → Prop} (h : Qd A w q qs) (k : Frm P w w') (hq : ¬ P q) : Qd A w' q qs := by
  obtain ⟨qa, qc, h1, h2⟩ := h.out
  exact ⟨qa, qc, (k.same q (Array.getElem?_eq_some_iff.1 h1).1 hq).trans h1, h2⟩
theorem Qd.ex {A w w' : World} {q : Nat} {qs : List Dg} (h : Qd A w q qs) (k : Ex w w') : Qd A w' q qs := h.frm (Frm.ex (F := fun _ => False) k) (fun h => h)
theorem Qd.lt {A w : World} {q : Nat} {qs : List Dg} (h : Qd A w q qs) : q < w.heap.size := by
  obtain ⟨qa, qc, h1, h2⟩ := h.out
  exact (Array.getElem?_eq_some_iff.1 h1).1
theorem Qd.nod {A w : World} {q : Nat} {qs : List Dg} (h : Qd A w q qs) : NoD w (fun b => b = q) := by
  obtain ⟨qa, qc, h1, h2⟩ := h.out
  exact nod_type h1 (by decide) (by decide) (by decide)
theorem Qd.ne {A w : World} {q p : Nat} {qs : List Dg} {c : Cl} (h : Qd A w q qs) (k : Cd w p c) : q ≠ p := fun e => by
  obtain ⟨qa, qc, h1, h2⟩ := h.out
  obtain ⟨v, h3, _⟩ := k.out
  subst e
  rw [h1] at h3
  cases h3
def PostDT (A : World) (p q : Nat) (w : World) (o : Option (Dg × List Dg × Cl)) (e : Ending) (w' : World) : Prop := match o with
  | some x => e = .returned (.tuple #[.agg (rowB 32 (dF x.1)), .bool true]) ∧ FrQ p q w w' ∧ Cd w' p x.2.2 ∧ Qd A w' q x.2.1
  | none => e = .returned (.tuple #[.agg (rowB 32 fun _ => 0), .bool false]) ∧ FrQ p q w w'
theorem qd_turn {A w w5 : World} {p q : Nat} {qs qs' : List Dg} {c : Cl} {a : Option Addr} {qc : Nat} (K : Cd w p c) (S : Qd A w q qs) (h1 : qs'.length ≤ qc) (h2 : qc ≤ maxLen) (h3 : SlD A a qs') (hw : Ex (w.setCell ⟨q, 0, none⟩ (.slice a qs'.length qc)) w5) :
    FrQ p q w w5 ∧ Cd w5 p c ∧ Qd A w5 q qs' := by
  have hF : Frm (fun b => b = q) w w5 := ((Frm.refl (fun b => b = q) w).set (b := q) rfl 0 _).trans (Frm.ex hw)
  refine ⟨FrQ.ofQ hF, K.frm S.nod hF, ?_⟩
  obtain ⟨qa0, qc0, h4, _⟩ := S.out
  refine ⟨a, qc, ex_block hw ?_, h1, h2, h3⟩
  rw [setCellF_block _ h4]
  rfl
set_option maxHeartbeats 1000000 in
theorem dspan_out {A : World} {p q : Nat} {W T : Int} {F : Nat} {pa : Option Addr} {pn pc : Nat} {qv : Value} (hqv : qv.oneCell' = true) (at_ n : Nat) (ho : at_ + n ≤ F ∨ F + pn ≤ at_) (h1 : at_ ≤ 1000) (h2 : n ≤ 1000) (h3 : F ≤ 1000) (h4 : pn ≤ 1000) (h5 : pn ≤ pc) (h6 : pc ≤ maxLen) (qs : List Dg) (lv : Value) (hlv : lv.oneCell' = true) (c : Cl) (w : World) (kA : Ex A w) (hk : Cd w p c) (hs : Qd A w q qs) :
    Calls Tryd.prog 91 #[I W, .agg #[I T, I F, .slice pa pn pc, qv], I at_, I n, .pointer (some ⟨q, 0, none⟩), lv, .pointer (some ⟨p, 0, none⟩)] w (PostDT A p q w ((popD qs).map fun x => (x.1, x.2, c))) := by
  have hne := hs.ne hk
  have HK := Lib.hid hk
  have HS := Lib.hid hs
  have hpw := hk.lt
  have hqw := hs.lt
  have t1 : decide ((at_ : Int) + n ≤ F) = true ∨ (decide ((at_ : Int) + n ≤ F) = false ∧ decide ((F : Int) + pn ≤ at_) = true) := by
    by_cases h : at_ + n ≤ F
    · exact Or.inl (decide_eq_true (by omega))
    · exact Or.inr ⟨decide_eq_false (by omega), decide_eq_true (by omega)⟩
  unfold maxLen at h6
  cases qs with
  | nil =>
    obtain ⟨qa, qc, h7, _⟩ := hs.out
    obtain ⟨c4, f4⟩ := block_cellF (o := 0) h7 rfl
    rw [List.length_nil] at c4
    have e0 : (popD ([] : List Dg)).map (fun x => (x.1, x.2, c)) = none := rfl
    rw [e0]
    clear hk hs ho h7
    rcases t1 with t1 | ⟨t1, t2⟩
    · go_enter Tryd.func91, Tryd.ntmps91
      go_wp2
      exact ret_rowV (cs := rowB 32 fun _ => 0) (v := .bool false) Tryd.results91 Tryd.underlying46 rfl info_id rfl (by simp [go_sem]) rfl rfl ⟨rfl, Frm.ex (by (try show Ex _ _); with_reducible repeat (first | exact ex_refl _ | assumption | refine ex_drewL ?_ | refine ex_appR ?_ _ | refine ex_wx ?_ _ | refine ex_drew ?_ | refine ex_alloc ?_ _))⟩
    · go_enter Tryd.func91, Tryd.ntmps91
      go_wp2
      exact ret_rowV (cs := rowB 32 fun _ => 0) (v := .bool false) Tryd.results91 Tryd.underlying46 rfl info_id rfl (by simp [go_sem]) rfl rfl ⟨rfl, Frm.ex (by (try show Ex _ _); with_reducible repeat (first | exact ex_refl _ | assumption | refine ex_drewL ?_ | refine ex_appR ?_ _ | refine ex_wx ?_ _ | refine ex_drew ?_ | refine ex_alloc ?_ _))⟩
  | cons x r =>
    have e0 : (popD (x :: r)).map (fun x => (x.1, x.2, c)) = some (x, r, c) := rfl
    rw [e0]
    obtain ⟨qa, qc, h7, hc, hm, hsd⟩ := hs.out
    obtain ⟨c4, f4⟩ := block_cellF (o := 0) h7 rfl
    obtain ⟨g, off, rfl, hg, hcell⟩ := hsd.pos (by simp)
    have hx := (hsd.ex kA).at (i := 0) (d := x) rfl
    rw [Nat.zero_mul, Nat.add_zero] at hx
    obtain ⟨hx1, hx2⟩ := hx
    have hd := hsd.drop 1
    rw [List.length_cons] at c4 hc
    have HD : Hid (∀ a, (qc = 1 → r = [] ) → ((¬ qc = 1 → a = some ⟨g, off + 32, none⟩) → SlD A a r)) := Lib.hid fun a h1 h2 => by
      by_cases hq : qc = 1
      · rw [h1 hq]; exact SlD.nil _ _
      · rw [h2 hq]; simpa using hd
    have e0 : ((r.length : Int) + 1 == 0) = false := beq_eq_false_iff_ne.2 (by omega)
    have HE := Lib.hid fun (a : Option Addr) (w5 : World) (hw : Ex (w.setCell ⟨q, 0, none⟩ (.slice a r.length (qc - 1))) w5) (h3 : SlD A a r) => qd_turn (qs' := r) HK.out HS.out (by omega) (by omega) h3 hw
    have hr : qc = 1 → r = [] := fun h => List.eq_nil_of_length_eq_zero (by omega)
    have HR := Lib.hid hr
    clear hcell hsd hd h7 hr hk hs ho
    unfold maxLen at hm
    unfold PostDT
    simp only
    by_cases hq : qc = 1
    · subst hq
      obtain rfl := HR.out rfl
      have HE1 : Hid (∀ w', Ex (w.setCell ⟨q, 0, none⟩ (.slice (some ⟨g, off, none⟩) 0 0)) w' → FrQ p q w w' ∧ Cd w' p c ∧ Qd A w' q []) := Lib.hid fun w' h => HE.out (some ⟨g, off, none⟩) w' h (SlD.nil _ _)
      rcases t1 with t1 | ⟨t1, t2⟩
      · go_enter Tryd.func91, Tryd.ntmps91
        go_wp2
        exact ret_rowV (cs := rowB 32 (dF x)) (v := .bool true) Tryd.results91 Tryd.underlying46 rfl info_id rfl (by simp [go_sem]) rfl rfl ⟨rfl, HE1.out _ (by (try show Ex _ _); with_reducible repeat (first | exact ex_refl _ | assumption | refine ex_drewL ?_ | refine ex_appR ?_ _ | refine ex_wx ?_ _ | refine ex_drew ?_ | refine ex_alloc ?_ _))⟩
      · go_enter Tryd.func91, Tryd.ntmps91
        go_wp2
        exact ret_rowV (cs := rowB 32 (dF x)) (v := .bool true) Tryd.results91 Tryd.underlying46 rfl info_id rfl (by simp [go_sem]) rfl rfl ⟨rfl, HE1.out _ (by (try show Ex _ _); with_reducible repeat (first | exact ex_refl _ | assumption | refine ex_drewL ?_ | refine ex_appR ?_ _ | refine ex_wx ?_ _ | refine ex_drew ?_ | refine ex_alloc ?_ _))⟩
    · have HD2 : Hid (SlD A (some ⟨g, off + 32, none⟩) r) := Lib.hid (HD.out _ HR.out fun _ => rfl)
      clear HD
      generalize r.length = n at *
      rcases t1 with t1 | ⟨t1, t2⟩
      · go_enter Tryd.func91, Tryd.ntmps91
        go_wp2
        exact ret_rowV (cs := rowB 32 (dF x)) (v := .bool true) Tryd.results91 Tryd.underlying46 rfl info_id rfl (by simp [go_sem]) rfl rfl ⟨rfl, HE.out _ _ (by (try show Ex _ _); with_reducible repeat (first | exact ex_refl _ | assumption | refine ex_drewL ?_ | refine ex_appR ?_ _ | refine ex_wx ?_ _ | refine ex_drew ?_ | refine ex_alloc ?_ _)) HD2.out⟩
      · go_enter Tryd.func91, Tryd.ntmps91
        go_wp2
        exact ret_rowV (cs := rowB 32 (dF x)) (v := .bool true) Tryd.results91 Tryd.underlying46 rfl info_id rfl (by simp [go_sem]) rfl rfl ⟨rfl, HE.out _ _ (by (try show Ex _ _); with_reducible repeat (first | exact ex_refl _ | assumption | refine ex_drewL ?_ | refine ex_appR ?_ _ | refine ex_wx ?_ _ | refine ex_drew ?_ | refine ex_alloc ?_ _)) HD2.out⟩
end Go.Proofs.YtcdocklbpfdmeaaDoor

/- Collide's document: the top of a span: one pair. -/
set_option linter.unusedSimpArgs false
set_option linter.unusedVariables false
set_option linter.unnecessarySimpa false
set_option maxRecDepth 20000
namespace Go.Proofs.YtcdocklbpfdmeaaDoor
open Go.RowKit
theorem putC_self (S : List UInt8 → Dg) (a : List UInt8) (c : Cl) : putC S a a c = (S a, c) := by
  unfold putC
  cases c <;> simp
theorem dq_end {A w A0 w5 : World} {p q r : Nat} {qs : List Dg} {c : Cl} {f0 : Nat → UInt8} (kw : Ex w A0) (hr : w.heap.size ≤ r) (hb : A0.heap[r]? = some (.cells (rowB 32 f0) 46 (0, 0))) (F5 : FrP p A0 w5) (K5 : Cd w5 p c) (S : Qd A w q qs) (hrp : r ≠ p) (hrq : r ≠ q) (hqp : q ≠ p) :
    (cellsN w5 r 0 32 = some (rowB 32 f0) ∧ frozenN w5 r 0 32 = false ∧ r < w5.heap.size) ∧
    ∀ x : Dg, cellsN (w5.setCells r 0 (rowB 32 (dF x)).toList) r 0 32 = some (rowB 32 (dF x)) ∧ FrQ p q w (w5.setCells r 0 (rowB 32 (dF x)).toList) ∧ Cd (w5.setCells r 0 (rowB 32 (dF x)).toList) p c ∧ Qd A (w5.setCells r 0 (rowB 32 (dF x)).toList) q qs := by
  have b5 := row_frm hb F5 hrp
  have S5 := (S.ex kw).frm F5 hqp
  refine ⟨block_cellsF b5 (by simp), fun x => ?_⟩
  have b6 := setCells_block r 46 (0, 0) (rowB 32 (dF x)).toList 0 w5 _ b5
  rw [spliceA_all _ _ (by simp)] at b6
  exact ⟨(block_cellsF b6 (by simp)).1, ((Frm.ex kw : FrQ p q w A0).trans (FrQ.ofP F5)).setsNew hr _ _, K5.setsR ⟨_, _, b5⟩ _ _, S5.frm (frm_sets (r := r) 0 _) (fun e => hrq e.symm)⟩
set_option maxHeartbeats 1000000 in
theorem dspan_one {A : World} {p q W : Nat} (hW : W ≤ 256) {T : Int} {F : Nat} {ps : List Pr} {pa : Option Addr} {pc : Nat} {qv : Value} (hqv : qv.oneCell' = true) (i : Nat) (P : Pr) (hP : ps[i]? = some P) (hPs : SlP A pa ps) (hfit : FitL ps) (h1 : F + i ≤ 1000) (h4 : ps.length ≤ 1000) (h5 : ps.length ≤ pc) (h6 : pc ≤ maxLen) (qs : List Dg) (l : List Pr) (la : Option Addr) (lc : Nat) (hl : l.length ≤ 1) (hlc : l.length ≤ lc) (hlm : lc ≤ maxLen) (hls : SlP A la l) (hlf : FitL l) (c : Cl) (w : World) (kA : Ex A w) (hk : Cd w p c) (hs : Qd A w q qs) :
    Calls Tryd.prog 91 #[I W, .agg #[I T, I F, .slice pa ps.length pc, qv], I ((F : Int) + i), I 1, .pointer (some ⟨q, 0, none⟩), .slice la l.length lc, .pointer (some ⟨p, 0, none⟩)] w (PostDT A p q w (some ((putH (sumW W) (leafL P) (l.head?.map leafL) c).1, qs, (putH (sumW W) (leafL P) (l.head?.map leafL) c).2))) := by
  have hne := hs.ne hk
  have HK := Lib.hid hk
  have HS := Lib.hid hs
  have hpw := hk.lt
  have hqw := hs.lt
  have hi := (List.getElem?_eq_some_iff.1 hP).1
  have HCl := Lib.hid fun w' => refcellB_any P (hfit P (List.mem_of_getElem? hP)) w'
  obtain ⟨g, off, rfl, hg, _⟩ := hPs.pos (by omega)
  obtain ⟨hx1, hx2⟩ := (hPs.ex kA).at hP
  have t1 : decide ((F : Int) + i + 1 ≤ F) = false := decide_eq_false (by omega)
  have t2 : decide ((F : Int) + ps.length ≤ (F : Int) + i) = false := decide_eq_false (by omega)
  have HE := Lib.hid fun (B : Obj) (w5 : World) (c5 : Cl) (F5 : FrP p ((w.alloc B).alloc (.cells (rowB 32 fun _ => 0) 46)) w5) (K5 : Cd w5 p c5) =>
    dq_end (A := A) (c := c5) (w := w) (r := w.heap.size + 1) (q := q) (ex_alloc (ex_alloc (ex_refl _) _) _) (by omega) (by have := heap_alloc_new (w.alloc B) (.cells (rowB 32 fun _ => 0) 46); rwa [World.size_alloc] at this) F5 K5 HS.out (by omega) (by omega) hne
  have h5' : (ps.length : Int) ≤ pc := by omega
  unfold maxLen at h6 hlm
  generalize ps.length = pn at *
  have tok1 : True := trivial
  have tok3 : True := trivial
  match l, hl with
  | [], _ =>
    have e0 : putH (sumW W) (leafL P) ((([] : List Pr).head?).map leafL) c = putC (sumW W) (leafL P) (leafL P) c := by rw [putC_self]; rfl
    rw [e0]
    have HPt : Hid (∀ w' v u, Ex w w' → OwnU w' v (leafL P) → OwnU w' u (leafL P) → Calls Tryd.prog 92 #[I W, v, u, .pointer (some ⟨p, 0, none⟩)] w' (PostD p w' (.agg (rowB 32 (dF (putC (sumW W) (leafL P) (leafL P) c).1))) (putC (sumW W) (leafL P) (leafL P) c).2)) :=
      Lib.hid fun w' v u k h1 h2 => step_any W hW (HK.out.ex k) h1 h2 (by have := leafL_short (p := P); omega) (by have := leafL_short (p := P); omega)
    generalize putC (sumW W) (leafL P) (leafL P) c = o at HPt ⊢
    obtain ⟨z, c'⟩ := o
    unfold PostDT
    simp only at HPt ⊢
    rw [List.length_nil] at *
    clear hk hs hls hP hPs
    go_enter Tryd.func91, Tryd.ntmps91
    go_wp2_with (first | (go_at_call 121; have _t := tok1; clear tok1; (with_reducible refine (HCl.out _).mono ?_); rintro e w2 ⟨v1, rfl, hv1, X1, rfl⟩; (try simp only [wx_wx, wx_drew] at hv1)) | (go_at_call 121; have _t := tok2; clear tok2; (with_reducible refine (HC2.out _).mono ?_); rintro e w2 ⟨v2, rfl, hv2, X2, rfl⟩; (try simp only [wx_wx, wx_drew] at hv2)) | (go_at_call 121; have _t := tok3; clear tok3; (with_reducible refine (HCl.out _).mono ?_); rintro e w2 ⟨v3, rfl, hv3, X3, rfl⟩; (try simp only [wx_wx, wx_drew] at hv3)) | (go_at_call 92; (with_reducible refine (HPt.out _ _ _ (by (try show Ex _ _); with_reducible repeat (first | exact ex_refl _ | assumption | refine ex_drewL ?_ | refine ex_appR ?_ _ | refine ex_wx ?_ _ | refine ex_drew ?_ | refine ex_alloc ?_ _)) (OwnU.ex hv3 (by (try show Ex _ _); with_reducible repeat (first | exact ex_refl _ | assumption | refine ex_drewL ?_ | refine ex_appR ?_ _ | refine ex_wx ?_ _ | refine ex_drew ?_ | refine ex_alloc ?_ _))) (OwnU.ex hv1 (by (try show Ex _ _); with_reducible repeat (first | exact ex_refl _ | assumption | refine ex_drewL ?_ | refine ex_appR ?_ _ | refine ex_wx ?_ _ | refine ex_drew ?_ | refine ex_alloc ?_ _)))).mono ?_); rintro e w5 ⟨rfl, F5', K5⟩; obtain ⟨⟨n5, f5, z5⟩, HX⟩ := HE.out _ w5 _ ((Frm.ex (by (try show Ex _ _); with_reducible repeat (first | exact ex_refl _ | assumption | refine ex_drewL ?_ | refine ex_appR ?_ _ | refine ex_wx ?_ _ | refine ex_drew ?_ | refine ex_alloc ?_ _))).trans F5') K5; replace HX := Lib.hid HX; replace F5' := Lib.hid F5'))
    obtain ⟨x1, x2, x3, x4⟩ := HX.out z
    exact ret_rowV (v := .bool true) Tryd.results91 Tryd.underlying46 rfl info_id rfl x1 rfl rfl ⟨rfl, x2, x3, x4⟩
  | [y], _ =>
    obtain ⟨g2, off2, rfl, hg2, _⟩ := hls.pos (by simp)
    obtain ⟨hy1, hy2⟩ := (hls.ex kA).at (i := 0) (d := y) rfl
    rw [Nat.zero_mul, Nat.add_zero] at hy1
    have HC2 := Lib.hid fun w' => refcellB_any y (hlf y (List.mem_singleton.2 rfl)) w'
    have HPt : Hid (∀ w' v u, Ex w w' → OwnU w' v (leafL P) → OwnU w' u (leafL y) → Calls Tryd.prog 92 #[I W, v, u, .pointer (some ⟨p, 0, none⟩)] w' (PostD p w' (.agg (rowB 32 (dF (putC (sumW W) (leafL P) (leafL y) c).1))) (putC (sumW W) (leafL P) (leafL y) c).2)) :=
      Lib.hid fun w' v u k h1 h2 => step_any W hW (HK.out.ex k) h1 h2 (by have := leafL_short (p := P); omega) (by have := leafL_short (p := y); omega)
    have e0 : putH (sumW W) (leafL P) ((([y] : List Pr).head?).map leafL) c = putC (sumW W) (leafL P) (leafL y) c := rfl
    rw [e0]
    generalize putC (sumW W) (leafL P) (leafL y) c = o at HPt ⊢
    obtain ⟨z, c'⟩ := o
    unfold PostDT
    simp only at HPt ⊢
    rw [List.length_singleton] at *
    have tok2 : True := trivial
    clear hk hs hls hP hPs
    go_enter Tryd.func91, Tryd.ntmps91
    go_wp2_with (first | (go_at_call 121; have _t := tok1; clear tok1; (with_reducible refine (HCl.out _).mono ?_); rintro e w2 ⟨v1, rfl, hv1, X1, rfl⟩; (try simp only [wx_wx, wx_drew] at hv1)) | (go_at_call 121; have _t := tok2; clear tok2; (with_reducible refine (HC2.out _).mono ?_); rintro e w2 ⟨v2, rfl, hv2, X2, rfl⟩; (try simp only [wx_wx, wx_drew] at hv2)) | (go_at_call 121; have _t := tok3; clear tok3; (with_reducible refine (HCl.out _).mono ?_); rintro e w2 ⟨v3, rfl, hv3, X3, rfl⟩; (try simp only [wx_wx, wx_drew] at hv3)) | (go_at_call 92; (with_reducible refine (HPt.out _ _ _ (by (try show Ex _ _); with_reducible repeat (first | exact ex_refl _ | assumption | refine ex_drewL ?_ | refine ex_appR ?_ _ | refine ex_wx ?_ _ | refine ex_drew ?_ | refine ex_alloc ?_ _)) (OwnU.ex hv3 (by (try show Ex _ _); with_reducible repeat (first | exact ex_refl _ | assumption | refine ex_drewL ?_ | refine ex_appR ?_ _ | refine ex_wx ?_ _ | refine ex_drew ?_ | refine ex_alloc ?_ _))) (OwnU.ex hv2 (by (try show Ex _ _); with_reducible repeat (first | exact ex_refl _ | assumption | refine ex_drewL ?_ | refine ex_appR ?_ _ | refine ex_wx ?_ _ | refine ex_drew ?_ | refine ex_alloc ?_ _)))).mono ?_); rintro e w5 ⟨rfl, F5', K5⟩; obtain ⟨⟨n5, f5, z5⟩, HX⟩ := HE.out _ w5 _ ((Frm.ex (by (try show Ex _ _); with_reducible repeat (first | exact ex_refl _ | assumption | refine ex_drewL ?_ | refine ex_appR ?_ _ | refine ex_wx ?_ _ | refine ex_drew ?_ | refine ex_alloc ?_ _))).trans F5') K5; replace HX := Lib.hid HX; replace F5' := Lib.hid F5'))
    obtain ⟨x1, x2, x3, x4⟩ := HX.out z
    exact ret_rowV (v := .bool true) Tryd.results91 Tryd.underlying46 rfl info_id rfl x1 rfl rfl ⟨rfl, x2, x3, x4⟩
end Go.Proofs.YtcdocklbpfdmeaaDoor

/- Collide's document: the top of a span: two halves, none of them there. -/
set_option linter.unusedSimpArgs false
set_option linter.unusedVariables false
set_option linter.unnecessarySimpa false
set_option maxRecDepth 20000
namespace Go.Proofs.YtcdocklbpfdmeaaDoor
open Go.RowKit
theorem dq_end2 {A w w4 w5 : World} {p q r : Nat} {qs : List Dg} {c : Cl} {f0 : Nat → UInt8} (F4 : FrQ p q w w4) (hr : w.heap.size ≤ r) (hb : w4.heap[r]? = some (.cells (rowB 32 f0) 46 (0, 0))) (S : Qd A w4 q qs) (hrp : r ≠ p) (hrq : r ≠ q) (hqp : q ≠ p) (F5 : FrP p w4 w5) (K5 : Cd w5 p c) :
    (cellsN w5 r 0 32 = some (rowB 32 f0) ∧ frozenN w5 r 0 32 = false ∧ r < w5.heap.size) ∧
    ∀ x : Dg, cellsN (w5.setCells r 0 (rowB 32 (dF x)).toList) r 0 32 = some (rowB 32 (dF x)) ∧ FrQ p q w (w5.setCells r 0 (rowB 32 (dF x)).toList) ∧ Cd (w5.setCells r 0 (rowB 32 (dF x)).toList) p c ∧ Qd A (w5.setCells r 0 (rowB 32 (dF x)).toList) q qs := by
  have b5 := row_frm hb F5 hrp
  have S5 := S.frm F5 hqp
  refine ⟨block_cellsF b5 (by simp), fun x => ?_⟩
  have b6 := setCells_block r 46 (0, 0) (rowB 32 (dF x)).toList 0 w5 _ b5
  rw [spliceA_all _ _ (by simp)] at b6
  exact ⟨(block_cellsF b6 (by simp)).1, (F4.trans (FrQ.ofP F5)).setsNew hr _ _, K5.setsR ⟨_, _, b5⟩ _ _, S5.frm (frm_sets (r := r) 0 _) (fun e => hrq e.symm)⟩
/-- The box of the span and the row that is handed back, behind a call. -/
theorem dspan_keep {w w2 : World} {p q : Nat} {cs : Array Value} (hp : p < w.heap.size) (hq : q < w.heap.size) (hcs : cs.size = 4) (F2 : FrQ p q ((w.alloc (.cells cs 27)).alloc (.cells (rowB 32 fun _ => 0) 46)) w2) :
    cellsN w2 w.heap.size 0 4 = some cs ∧ w.heap.size < w2.heap.size ∧ cellsN w2 (w.heap.size + 1) 0 32 = some (rowB 32 fun _ => 0) ∧ frozenN w2 (w.heap.size + 1) 0 32 = false ∧ w.heap.size + 1 < w2.heap.size ∧ FrQ p q w w2 ∧ w2.heap[w.heap.size + 1]? = some (.cells (rowB 32 fun _ => 0) 46 (0, 0)) := by
  have h0 := ex_block (ex_alloc (ex_refl _) (.cells (rowB 32 fun _ => 0) 46)) (heap_alloc_new w (.cells cs 27))
  have h1 := heap_alloc_new (w.alloc (.cells cs 27)) (.cells (rowB 32 fun _ => 0) 46)
  rw [World.size_alloc] at h1
  have b0 := (F2.same w.heap.size (Array.getElem?_eq_some_iff.1 h0).1 (by rintro (e | e) <;> omega)).trans h0
  have b1 := (F2.same (w.heap.size + 1) (Array.getElem?_eq_some_iff.1 h1).1 (by rintro (e | e) <;> omega)).trans h1
  obtain ⟨c0, _, z0⟩ := block_cellsF (n := 4) b0 hcs
  obtain ⟨c1, f1, z1⟩ := block_cellsF (n := 32) b1 (by simp)
  exact ⟨c0, z0, c1, f1, z1, (Frm.ex (ex_alloc (ex_alloc (ex_refl _) _) _) : FrQ p q w _).trans F2, b1⟩
set_option maxHeartbeats 2000000 in
theorem dspan_two0 {A : World} {p q W : Nat} (hW : W ≤ 256) {T : Int} {F : Nat} {pa : Option Addr} {pn pc : Nat} {qv : Value} (hqv : qv.oneCell' = true) (at_ n k : Nat) (hk1 : k < n) (hk2 : 1 ≤ k) (hn2 : 2 ≤ n) (ho : ¬ (at_ + n ≤ F ∨ F + pn ≤ at_)) (h1 : at_ + n ≤ 1000) (h3 : F ≤ 1000) (h4 : pn ≤ 1000) (h5 : pn ≤ pc) (h6 : pc ≤ maxLen) (qs : List Dg) (la : Option Addr) (lc : Nat) (hlm : lc ≤ maxLen) (c : Cl) (w : World) (kA : Ex A w) (hk : Cd w p c) (hs : Qd A w q qs) (hAp : A.heap.size ≤ p) (hAq : A.heap.size ≤ q)
    (o1 : Option (Dg × List Dg × Cl)) (f2 : List Dg → Cl → Option (Dg × List Dg × Cl))
    (HSp : Hid (∀ w, Calls Tryd.prog 80 #[I n] w (fun e w' => e = .returned (I k) ∧ w = w')))
    (HC1 : Hid (∀ w', Ex w w' → Calls Tryd.prog 91 #[I W, .agg #[I T, I F, .slice pa pn pc, qv], I at_, I k, .pointer (some ⟨q, 0, none⟩), .slice none 0 0, .pointer (some ⟨p, 0, none⟩)] w' (PostDT A p q w' o1)))
    (HC2 : Hid (∀ qs1 c1 w', Ex A w' → Cd w' p c1 → Qd A w' q qs1 → Calls Tryd.prog 91 #[I W, .agg #[I T, I F, .slice pa pn pc, qv], I ((at_ : Int) + k), I ((n : Int) - k), .pointer (some ⟨q, 0, none⟩), .slice none 0 0, .pointer (some ⟨p, 0, none⟩)] w' (PostDT A p q w' (f2 qs1 c1)))) :
    Calls Tryd.prog 91 #[I W, .agg #[I T, I F, .slice pa pn pc, qv], I at_, I n, .pointer (some ⟨q, 0, none⟩), .slice la 0 lc, .pointer (some ⟨p, 0, none⟩)] w (PostDT A p q w (o1.bind fun x => (f2 x.2.1 x.2.2).map fun y => ((putH (sumW W) (twoL x.1 y.1) none y.2.2).1, y.2.1, (putH (sumW W) (twoL x.1 y.1) none y.2.2).2))) := by
  have hne := hs.ne hk
  have hpw := hk.lt
  have hqw := hs.lt
  have t1 : decide ((at_ : Int) + n ≤ F) = false := decide_eq_false (by omega)
  have t2 : decide ((F : Int) + pn ≤ at_) = false := decide_eq_false (by omega)
  have t3 : ((n : Int) == 1) = false := beq_eq_false_iff_ne.2 (by omega)
  have h5' : (pn : Int) ≤ pc := by omega
  have hkn : (k : Int) ≤ n := by omega
  unfold maxLen at h6 hlm
  clear hs hk ho
  cases o1 with
  | none =>
    have e0 : ((none : Option (Dg × List Dg × Cl)).bind fun x => (f2 x.2.1 x.2.2).map fun y => ((putH (sumW W) (twoL x.1 y.1) none y.2.2).1, y.2.1, (putH (sumW W) (twoL x.1 y.1) none y.2.2).2)) = none := rfl
    rw [e0]
    replace HC1 : Hid (∀ w', Ex w w' → Calls Tryd.prog 91 #[I W, .agg #[I T, I F, .slice pa pn pc, qv], I at_, I k, .pointer (some ⟨q, 0, none⟩), .slice none 0 0, .pointer (some ⟨p, 0, none⟩)] w' (fun e w2 => e = .returned (.tuple #[.agg (rowB 32 fun _ => 0), .bool false]) ∧ FrQ p q w' w2)) := HC1
    clear HC2
    go_enter Tryd.func91, Tryd.ntmps91
    go_wp2_with (first | (go_at_call 80; (with_reducible refine (HSp.out _).mono ?_); rintro e w' ⟨rfl, rfl⟩) | (go_at_call 91; (with_reducible refine (HC1.out _ (by (try show Ex _ _); with_reducible repeat (first | exact ex_refl _ | assumption | refine ex_drewL ?_ | refine ex_appR ?_ _ | refine ex_wx ?_ _ | refine ex_drew ?_ | refine ex_alloc ?_ _))).mono ?_); rintro e w2 ⟨rfl, F2'⟩; have F2 : FrQ p q ((w.alloc (.cells #[I T, I F, .slice pa pn pc, qv] 27)).alloc (.cells (rowB 32 fun _ => 0) 46)) w2 := (Frm.ex (by (try show Ex _ _); with_reducible repeat (first | exact ex_refl _ | assumption | refine ex_drewL ?_ | refine ex_appR ?_ _ | refine ex_wx ?_ _ | refine ex_drew ?_ | refine ex_alloc ?_ _))).trans F2'; obtain ⟨b8, z8, n14, f14, z14, F9, _⟩ := dspan_keep hpw hqw rfl F2; replace F2' := Lib.hid F2'))
    exact ret_rowV (cs := rowB 32 fun _ => 0) (v := .bool false) Tryd.results91 Tryd.underlying46 rfl info_id rfl (by simp [go_sem, n14, z14]) rfl rfl ⟨rfl, (by repeat (first | (with_reducible exact F9) | (with_reducible exact Frm.refl _ _) | (with_reducible refine Frm.allocR ?_ _) | (with_reducible refine Frm.wxR ?_ _) | (with_reducible refine Frm.drewR ?_) | ((with_reducible refine Frm.setsNew ?_ ?_ _ _); rotate_left; (focus omega))))⟩
  | some x =>
    obtain ⟨x1, qs1, c1'⟩ := x
    replace HC1 : Hid (∀ w', Ex w w' → Calls Tryd.prog 91 #[I W, .agg #[I T, I F, .slice pa pn pc, qv], I at_, I k, .pointer (some ⟨q, 0, none⟩), .slice none 0 0, .pointer (some ⟨p, 0, none⟩)] w' (fun e w2 => e = .returned (.tuple #[.agg (rowB 32 (dF x1)), .bool true]) ∧ FrQ p q w' w2 ∧ Cd w2 p c1' ∧ Qd A w2 q qs1)) := HC1
    have HC2' := Lib.hid (HC2.out qs1 c1')
    have e0 : ((some (x1, qs1, c1')).bind fun x => (f2 x.2.1 x.2.2).map fun y => ((putH (sumW W) (twoL x.1 y.1) none y.2.2).1, y.2.1, (putH (sumW W) (twoL x.1 y.1) none y.2.2).2)) = (f2 qs1 c1').map fun y => ((putC (sumW W) (twoL x1 y.1) (twoL x1 y.1) y.2.2).1, y.2.1, (putC (sumW W) (twoL x1 y.1) (twoL x1 y.1) y.2.2).2) := by simp only [putC_self]; rfl
    rw [e0]
    generalize f2 qs1 c1' = o2 at HC2' ⊢
    clear HC2 e0
    have tok : True := trivial
    cases o2 with
    | none =>
      rw [Option.map_none]
      have HC2 : Hid (∀ w', Ex A w' → Cd w' p c1' → Qd A w' q qs1 → Calls Tryd.prog 91 #[I W, .agg #[I T, I F, .slice pa pn pc, qv], I ((at_ : Int) + k), I ((n : Int) - k), .pointer (some ⟨q, 0, none⟩), .slice none 0 0, .pointer (some ⟨p, 0, none⟩)] w' (fun e w2 => e = .returned (.tuple #[.agg (rowB 32 fun _ => 0), .bool false]) ∧ FrQ p q w' w2)) := HC2'
      clear HC2'
      go_enter Tryd.func91, Tryd.ntmps91
      go_wp2_with (first | (go_at_call 80; (with_reducible refine (HSp.out _).mono ?_); rintro e w' ⟨rfl, rfl⟩) | (go_at_call 91; have _t := tok; clear tok; (with_reducible refine (HC1.out _ (by (try show Ex _ _); with_reducible repeat (first | exact ex_refl _ | assumption | refine ex_drewL ?_ | refine ex_appR ?_ _ | refine ex_wx ?_ _ | refine ex_drew ?_ | refine ex_alloc ?_ _))).mono ?_); rintro e w2 ⟨rfl, F2', K2, S2⟩; have F2 : FrQ p q ((w.alloc (.cells #[I T, I F, .slice pa pn pc, qv] 27)).alloc (.cells (rowB 32 fun _ => 0) 46)) w2 := (Frm.ex (by (try show Ex _ _); with_reducible repeat (first | exact ex_refl _ | assumption | refine ex_drewL ?_ | refine ex_appR ?_ _ | refine ex_wx ?_ _ | refine ex_drew ?_ | refine ex_alloc ?_ _))).trans F2'; have kA2 : Ex A w2 := FrQ.exA F2 (ex_alloc (ex_alloc kA _) _) hAp hAq; have zp2 := K2.lt; have zq2 := S2.lt; obtain ⟨b8, z8, n14, f14, z14, F9, _⟩ := dspan_keep hpw hqw rfl F2; replace F2' := Lib.hid F2') | (go_at_call 91; (with_reducible refine (HC2.out _ (ex_trans kA2 (by (try show Ex _ _); with_reducible repeat (first | exact ex_refl _ | assumption | refine ex_drewL ?_ | refine ex_appR ?_ _ | refine ex_wx ?_ _ | refine ex_drew ?_ | refine ex_alloc ?_ _))) (K2.ex (by (try show Ex _ _); with_reducible repeat (first | exact ex_refl _ | assumption | refine ex_drewL ?_ | refine ex_appR ?_ _ | refine ex_wx ?_ _ | refine ex_drew ?_ | refine ex_alloc ?_ _))) (S2.ex (by (try show Ex _ _); with_reducible repeat (first | exact ex_refl _ | assumption | refine ex_drewL ?_ | refine ex_appR ?_ _ | refine ex_wx ?_ _ | refine ex_drew ?_ | refine ex_alloc ?_ _)))).mono ?_); rintro e w4 ⟨rfl, F4'⟩; have F4 : FrQ p q ((w.alloc (.cells #[I T, I F, .slice pa pn pc, qv] 27)).alloc (.cells (rowB 32 fun _ => 0) 46)) w4 := F2.trans ((Frm.ex (by (try show Ex _ _); with_reducible repeat (first | exact ex_refl _ | assumption | refine ex_drewL ?_ | refine ex_appR ?_ _ | refine ex_wx ?_ _ | refine ex_drew ?_ | refine ex_alloc ?_ _))).trans F4'); clear b8 z8 n14 f14 z14 F9; obtain ⟨b8, z8, n14, f14, z14, F9, _⟩ := dspan_keep hpw hqw rfl F4; replace F4' := Lib.hid F4'))
      exact ret_rowV (cs := rowB 32 fun _ => 0) (v := .bool false) Tryd.results91 Tryd.underlying46 rfl info_id rfl (by simp [go_sem, n14, z14]) rfl rfl ⟨rfl, (by repeat (first | (with_reducible exact F9) | (with_reducible exact Frm.refl _ _) | (with_reducible refine Frm.allocR ?_ _) | (with_reducible refine Frm.wxR ?_ _) | (with_reducible refine Frm.drewR ?_) | ((with_reducible refine Frm.setsNew ?_ ?_ _ _); rotate_left; (focus omega))))⟩
    | some y =>
      obtain ⟨y1, qs2, c2'⟩ := y
      rw [Option.map_some]
      have HC2 : Hid (∀ w', Ex A w' → Cd w' p c1' → Qd A w' q qs1 → Calls Tryd.prog 91 #[I W, .agg #[I T, I F, .slice pa pn pc, qv], I ((at_ : Int) + k), I ((n : Int) - k), .pointer (some ⟨q, 0, none⟩), .slice none 0 0, .pointer (some ⟨p, 0, none⟩)] w' (fun e w2 => e = .returned (.tuple #[.agg (rowB 32 (dF y1)), .bool true]) ∧ FrQ p q w' w2 ∧ Cd w2 p c2' ∧ Qd A w2 q qs2)) := HC2'
      clear HC2'
      have H2 := Lib.hid (fun a b w => reftwo_any a b w)
      have HPt : Hid (∀ w' v u, Cd w' p c2' → OwnU w' v (twoL x1 y1) → OwnU w' u (twoL x1 y1) → Calls Tryd.prog 92 #[I W, v, u, .pointer (some ⟨p, 0, none⟩)] w' (PostD p w' (.agg (rowB 32 (dF (putC (sumW W) (twoL x1 y1) (twoL x1 y1) c2').1))) (putC (sumW W) (twoL x1 y1) (twoL x1 y1) c2').2)) :=
        Lib.hid fun w' v u h0 h1 h2 => step_any W hW h0 h1 h2 (by rw [twoL_len]; omega) (by rw [twoL_len]; omega)
      unfold PostDT
      simp only
      generalize putC (sumW W) (twoL x1 y1) (twoL x1 y1) c2' = o at HPt ⊢
      obtain ⟨z, c'⟩ := o
      simp only at HPt ⊢
      have tokA : True := trivial
      go_enter Tryd.func91, Tryd.ntmps91
      go_wp2_with (first | (go_at_call 80; (with_reducible refine (HSp.out _).mono ?_); rintro e w' ⟨rfl, rfl⟩) | (go_at_call 91; have _t := tok; clear tok; (with_reducible refine (HC1.out _ (by (try show Ex _ _); with_reducible repeat (first | exact ex_refl _ | assumption | refine ex_drewL ?_ | refine ex_appR ?_ _ | refine ex_wx ?_ _ | refine ex_drew ?_ | refine ex_alloc ?_ _))).mono ?_); rintro e w2 ⟨rfl, F2', K2, S2⟩; have F2 : FrQ p q ((w.alloc (.cells #[I T, I F, .slice pa pn pc, qv] 27)).alloc (.cells (rowB 32 fun _ => 0) 46)) w2 := (Frm.ex (by (try show Ex _ _); with_reducible repeat (first | exact ex_refl _ | assumption | refine ex_drewL ?_ | refine ex_appR ?_ _ | refine ex_wx ?_ _ | refine ex_drew ?_ | refine ex_alloc ?_ _))).trans F2'; have kA2 : Ex A w2 := FrQ.exA F2 (ex_alloc (ex_alloc kA _) _) hAp hAq; have zp2 := K2.lt; have zq2 := S2.lt; obtain ⟨b8, z8, n14, f14, z14, F9, _⟩ := dspan_keep hpw hqw rfl F2; replace F2' := Lib.hid F2') | (go_at_call 91; (with_reducible refine (HC2.out _ (ex_trans kA2 (by (try show Ex _ _); with_reducible repeat (first | exact ex_refl _ | assumption | refine ex_drewL ?_ | refine ex_appR ?_ _ | refine ex_wx ?_ _ | refine ex_drew ?_ | refine ex_alloc ?_ _))) (K2.ex (by (try show Ex _ _); with_reducible repeat (first | exact ex_refl _ | assumption | refine ex_drewL ?_ | refine ex_appR ?_ _ | refine ex_wx ?_ _ | refine ex_drew ?_ | refine ex_alloc ?_ _))) (S2.ex (by (try show Ex _ _); with_reducible repeat (first | exact ex_refl _ | assumption | refine ex_drewL ?_ | refine ex_appR ?_ _ | refine ex_wx ?_ _ | refine ex_drew ?_ | refine ex_alloc ?_ _)))).mono ?_); rintro e w4 ⟨rfl, F4', K4, S4⟩; have F4 : FrQ p q ((w.alloc (.cells #[I T, I F, .slice pa pn pc, qv] 27)).alloc (.cells (rowB 32 fun _ => 0) 46)) w4 := F2.trans ((Frm.ex (by (try show Ex _ _); with_reducible repeat (first | exact ex_refl _ | assumption | refine ex_drewL ?_ | refine ex_appR ?_ _ | refine ex_wx ?_ _ | refine ex_drew ?_ | refine ex_alloc ?_ _))).trans F4'); have kA4 : Ex A w4 := FrQ.exA F4 (ex_alloc (ex_alloc kA _) _) hAp hAq; obtain ⟨n12, f12, z12, i12⟩ := frG32 (r := w2.heap.size) (cs := rowB 32 (dF x1)) F4' (IdB.new' rfl) (by intro e; rcases e with e | e <;> omega) (by simp [go_sem]) (by simp [go_sem]); clear b8 z8 n14 f14 z14 F9; obtain ⟨b8, z8, n14, f14, z14, F9, b14⟩ := dspan_keep hpw hqw rfl F4; have HE := Lib.hid fun w5 c5 (F5 : FrP p w4 w5) (K5 : Cd w5 p c5) => dq_end2 F9 (Nat.le_succ _) b14 S4 (by omega) (by omega) hne F5 K5; replace F4' := Lib.hid F4'; clear b14 n14 f14) | (go_at_call 81; have _t := tokA; clear tokA; (with_reducible refine (H2.out _ _ _).mono ?_); rintro e w3 ⟨v4, rfl, hv4, X4, rfl⟩; (try simp only [wx_wx, wx_drew] at hv4)) | (go_at_call 81; (with_reducible refine (H2.out _ _ _).mono ?_); rintro e w3 ⟨v5, rfl, hv5, X5, rfl⟩; (try simp only [wx_wx, wx_drew] at hv5)) | (go_at_call 92; (with_reducible refine (HPt.out _ _ _ (K4.ex (by (try show Ex _ _); with_reducible repeat (first | exact ex_refl _ | assumption | refine ex_drewL ?_ | refine ex_appR ?_ _ | refine ex_wx ?_ _ | refine ex_drew ?_ | refine ex_alloc ?_ _))) (OwnU.ex hv5 (by (try show Ex _ _); with_reducible repeat (first | exact ex_refl _ | assumption | refine ex_drewL ?_ | refine ex_appR ?_ _ | refine ex_wx ?_ _ | refine ex_drew ?_ | refine ex_alloc ?_ _))) (OwnU.ex hv4 (by (try show Ex _ _); with_reducible repeat (first | exact ex_refl _ | assumption | refine ex_drewL ?_ | refine ex_appR ?_ _ | refine ex_wx ?_ _ | refine ex_drew ?_ | refine ex_alloc ?_ _)))).mono ?_); rintro e w5 ⟨rfl, F5', K5⟩; obtain ⟨⟨n5, f5, z5⟩, HX⟩ := HE.out w5 _ ((Frm.ex (by (try show Ex _ _); with_reducible repeat (first | exact ex_refl _ | assumption | refine ex_drewL ?_ | refine ex_appR ?_ _ | refine ex_wx ?_ _ | refine ex_drew ?_ | refine ex_alloc ?_ _))).trans F5') K5; replace HX := Lib.hid HX; replace F5' := Lib.hid F5'))
      obtain ⟨x1', x2', x3', x4'⟩ := HX.out z
      exact ret_rowV (v := .bool true) Tryd.results91 Tryd.underlying46 rfl info_id rfl x1' rfl rfl ⟨rfl, x2', x3', x4'⟩
end Go.Proofs.YtcdocklbpfdmeaaDoor
