import Derived.Test.YtcdocklbpfdmeaaDoorMCoU
import Derived.Test.YtcdocklbpfdmeaaDoorMClimb

/- Collide's document: the clashes in memory; step. -/
set_option linter.unusedSimpArgs false
set_option linter.unusedVariables false
set_option linter.unnecessarySimpa false
set_option maxRecDepth 20000
namespace Go.Proofs.YtcdocklbpfdmeaaDoor
open Go.RowKit
/-- A row of clashes: none, or one. -/
def ClR (w : World) (v : Value) : Cl → Prop
  | none => v = .slice none 0 0
  | some x => ∃ sa sb, w.ownsRow 0 37 2 v 1 [sa, sb] ∧ OwnU w sa x.1 ∧ OwnU w sb x.2
/-- The variable that holds the clashes. -/
structure Cd (w : World) (p : Nat) (c : Cl) : Prop where
  out : ∃ v, w.heap[p]? = some (.cells #[v] 57 (0, 0)) ∧ ClR w v c
structure NoD (w : World) (F : Nat → Prop) : Prop where
  out : ∀ b cs t fr, F b → w.heap[b]? = some (.cells cs t fr) → t ≠ 5 ∧ t ≠ 57 ∧ t ≠ 37
theorem NoD.nou {w : World} {F : Nat → Prop} (h : NoD w F) : NoU w F := ⟨fun b cs fr hb h' => (h.out b cs _ fr hb h').1 rfl⟩
theorem owns_frm {w w' : World} {Z : Nat} {t : TypeId} {s : Nat} {v : Value} {n : Nat} {xs : List Value} {F : Nat → Prop} (h : w.ownsRow Z t s v n xs) (hF : ∀ b cs fr, F b → w.heap[b]? ≠ some (.cells cs t fr)) (k : Frm F w w') : w'.ownsRow Z t s v n xs := by
  refine ⟨h.1, ?_⟩
  rcases h.2 with h2 | ⟨g, cap, cur, h1, h2, h3, h4⟩
  · exact Or.inl h2
  · exact Or.inr ⟨g, cap, cur, h1, h2, (k.same g (Array.getElem?_eq_some_iff.1 h3).1 fun e => hF g _ _ e h3).trans h3, h4⟩
theorem ClR.frm {w w' : World} {v : Value} {c : Cl} {F : Nat → Prop} (h : ClR w v c) (hu : NoU w F) (hF : ∀ b cs fr, F b → w.heap[b]? ≠ some (.cells cs 37 fr)) (k : Frm F w w') : ClR w' v c := by
  cases c with
  | none => exact h
  | some x =>
    obtain ⟨sa, sb, h1, h2, h3⟩ := h
    exact ⟨sa, sb, owns_frm h1 hF k, h2.frm hu k, h3.frm hu k⟩
theorem ClR.ex {w w' : World} {v : Value} {c : Cl} (h : ClR w v c) (k : Ex w w') : ClR w' v c := by
  cases c with
  | none => exact h
  | some x =>
    obtain ⟨sa, sb, h1, h2, h3⟩ := h
    exact ⟨sa, sb, owns_ex h1 k, h2.ex k, h3.ex k⟩
theorem Cd.lt {w : World} {p : Nat} {c : Cl} (h : Cd w p c) : p < w.heap.size := by
  obtain ⟨v, h1, _⟩ := h.out
  exact (Array.getElem?_eq_some_iff.1 h1).1
theorem Cd.ex {w w' : World} {p : Nat} {c : Cl} (h : Cd w p c) (k : Ex w w') : Cd w' p c := by
  obtain ⟨v, h1, h2⟩ := h.out
  exact ⟨v, ex_block k h1, h2.ex k⟩
theorem Cd.nou {w : World} {p : Nat} {c : Cl} (h : Cd w p c) : NoU w (fun b => b = p) := by
  obtain ⟨v, h1, _⟩ := h.out
  exact nou_type h1 (by decide)
theorem Cd.frm {w w' : World} {p : Nat} {c : Cl} {F : Nat → Prop} (h : Cd w p c) (hF : NoD w F) (k : Frm F w w') : Cd w' p c := by
  obtain ⟨v, h1, h2⟩ := h.out
  exact ⟨v, (k.same p (Array.getElem?_eq_some_iff.1 h1).1 fun e => (hF.out p _ _ _ e h1).2.1 rfl).trans h1, h2.frm hF.nou (fun b cs fr hb h' => (hF.out b cs _ fr hb h').2.2 rfl) k⟩
theorem Cd.new {w : World} : Cd (w.alloc (.cells #[.slice none 0 0] 57)) w.heap.size none := ⟨_, heap_alloc_new _ _, rfl⟩
theorem Cd.new' {w : World} {p : Nat} (hp : p = w.heap.size) : Cd (w.alloc (.cells #[.slice none 0 0] 57)) p none := by subst hp; exact Cd.new
theorem Cd.none_cell {w : World} {p : Nat} (h : Cd w p none) : w.heap[p]? = some (.cells #[.slice none 0 0] 57 (0, 0)) := by
  obtain ⟨v, h1, h2⟩ := h.out
  cases h2; exact h1
theorem ClR.len {w : World} {v : Value} {x : List UInt8 × List UInt8} (h : ClR w v (some x)) : ∃ g cap, v = .slice (some ⟨g, 0, none⟩) 1 cap ∧ 1 ≤ cap ∧ cap ≤ maxLen := by
  obtain ⟨sa, sb, h1, _⟩ := h
  obtain ⟨g, cap, cur, rfl, _, _, h2, h3, _⟩ := own_block h1 (by omega) (by omega)
  exact ⟨g, cap, rfl, h2, h3⟩
/-- A clash is noted. -/
theorem Cd.note {w w' : World} {p : Nat} {v' sa sb : Value} {A D : List UInt8} (h : Cd w p none) (k : Ex (w.setCell ⟨p, 0, none⟩ v') w')
    (hw : w'.ownsRow 0 37 2 v' 1 [sa, sb]) (h1 : OwnU w sa A) (h2 : OwnU w sb D) : FrP p w w' ∧ Cd w' p (some (A, D)) := by
  have f1 : FrP p w (w.setCell ⟨p, 0, none⟩ v') := (Frm.refl (fun b => b = p) w).set (b := p) rfl 0 _
  have f2 : FrP p w w' := f1.trans (Frm.ex k)
  refine ⟨f2, v', ?_, sa, sb, hw, h1.frm h.nou f2, h2.frm h.nou f2⟩
  refine ex_block k ?_
  rw [setCellF_block _ h.none_cell]
  rfl
end Go.Proofs.YtcdocklbpfdmeaaDoor

/- Collide's document: climb. -/
set_option linter.unusedSimpArgs false
set_option linter.unusedVariables false
set_option linter.unnecessarySimpa false
set_option maxRecDepth 20000
namespace Go.Proofs.YtcdocklbpfdmeaaDoor
open Go.RowKit
end Go.Proofs.YtcdocklbpfdmeaaDoor

/- Collide's document: Includes, Include, SameClash. -/
set_option linter.unusedSimpArgs false
set_option linter.unusedVariables false
set_option linter.unnecessarySimpa false
set_option maxRecDepth 20000
namespace Go.Proofs.YtcdocklbpfdmeaaDoor
open Go.RowKit
end Go.Proofs.YtcdocklbpfdmeaaDoor

/- Collide's document: Include. -/
set_option linter.unusedSimpArgs false
set_option linter.unusedVariables false
set_option linter.unnecessarySimpa false
set_option maxRecDepth 20000
namespace Go.Proofs.YtcdocklbpfdmeaaDoor
open Go.RowKit
def PostClT (w : World) (o : Cl) (e : Ending) (w' : World) : Prop := ∃ sa sb, e = .returned (.tuple #[.agg #[sa, sb], .bool o.isSome]) ∧ Ex w w' ∧ ClS w' sa sb o
end Go.Proofs.YtcdocklbpfdmeaaDoor

/- Collide's laws: raw, ids, leaves, claim: what can be played in time. -/
set_option linter.unusedSimpArgs false
set_option linter.unusedVariables false
set_option linter.unnecessarySimpa false
set_option maxRecDepth 20000
namespace Go.Proofs.YtcdocklbpfdmeaaDoor
open Go.RowKit
theorem SlT.take {w : World} {a : Option Addr} {n c : Nat} {l : List UInt8} (h : SlT w (.slice a n c) l) (k : Nat) (hk : k ≤ l.length) : SlT w (.slice a k c) (l.take k) := by
  obtain ⟨a', c', hv, h1, h2, h3, h4⟩ := h.out
  obtain ⟨rfl, rfl, rfl⟩ : a = a' ∧ n = l.length ∧ c = c' := by simpa using hv
  refine ⟨a, c, by rw [List.length_take, Nat.min_eq_left hk], by rw [List.length_take]; omega, h2, h3, ?_⟩
  unfold SlL at h4 ⊢
  rw [List.length_take, Nat.min_eq_left hk]
  rcases h4.out with h0 | ⟨g, off, h5, h6, h7⟩
  · obtain rfl : k = 0 := by omega
    exact SlB.zero _ _ _
  · subst h5
    refine SlB.mk' h6 fun j hj => ?_
    rw [h7 j (by omega)]
    unfold gF
    rw [List.getD_eq_getElem?_getD, List.getD_eq_getElem?_getD, List.getElem?_take, if_pos hj]
set_option maxHeartbeats 1000000 in
theorem ids_any (l : List Dg) (a : Option Addr) (c : Nat) (w : World) (hc : l.length ≤ c) (hcm : c ≤ maxLen) (ha : a = none → c = 0) (hs : SlD w a l) :
    Calls Tryd.prog 56 #[.slice a l.length c] w (PostO w (l.take 12)) := by
  unfold maxLen at hcm
  cases a with
  | none =>
    obtain rfl := ha rfl
    obtain rfl : l = [] := List.eq_nil_of_length_eq_zero (by omega)
    rw [List.take_nil, List.length_nil]
    go_enter Tryd.func56, Tryd.ntmps56
    go_wp2
    go_ret
    exact ⟨_, rfl, ownd_empty (by (try show Ex _ _); with_reducible repeat (first | exact ex_refl _ | assumption | refine ex_drewL ?_ | refine ex_appR ?_ _ | refine ex_wx ?_ _ | refine ex_drew ?_ | refine ex_alloc ?_ _)) (by simp [go_sem]) (by simp [go_sem]), (by (try show Ex _ _); with_reducible repeat (first | exact ex_refl _ | assumption | refine ex_drewL ?_ | refine ex_appR ?_ _ | refine ex_wx ?_ _ | refine ex_drew ?_ | refine ex_alloc ?_ _))⟩
  | some ad =>
    clear ha
    obtain ⟨m, hm⟩ : ∃ m, min l.length 12 = m := ⟨_, rfl⟩
    have hml : (l.take 12).length = m := by rw [List.length_take]; omega
    have hst : SlD w (some ad) (l.take 12) := hs.take 12
    generalize l.take 12 = r at hml hst ⊢
    generalize l.length = n at hc hm ⊢
    have e3 : m ≤ 12 := by omega
    have HR : Hid (m = r.length) := Lib.hid hml.symm
    clear hs hml
    by_cases hkn : 12 < n
    · obtain rfl : m = 12 := by omega
      have e2 : (12 : Int) ≤ c := by omega
      have e4 : (12 : Int) < n := by omega
      have e5 : min (n : Int) 12 = 12 := by omega
      clear hm
      go_enter Tryd.func56, Tryd.ntmps56
      go_wp2_with (at_builtin; refine wpAppS _ _ rfl rfl (ownd_empty (Z := w.heap.size) (by (try show Ex _ _); with_reducible repeat (first | exact ex_refl _ | assumption | refine ex_drewL ?_ | refine ex_appR ?_ _ | refine ex_wx ?_ _ | refine ex_drew ?_ | refine ex_alloc ?_ _)) (by simp [go_sem]) (by simp [go_sem])) rfl rfl HR.out (hst.ex (by (try show Ex _ _); with_reducible repeat (first | exact ex_refl _ | assumption | refine ex_drewL ?_ | refine ex_appR ?_ _ | refine ex_wx ?_ _ | refine ex_drew ?_ | refine ex_alloc ?_ _))) (by have := HR.out; simp; omega) (by simp [go_sem]) (fun v1 w1 hown hbe => ?_); obtain ⟨X1, rfl⟩ := exOf (A := w) (by (try show Ex _ _); with_reducible repeat (first | exact ex_refl _ | assumption | refine ex_drewL ?_ | refine ex_appR ?_ _ | refine ex_wx ?_ _ | refine ex_drew ?_ | refine ex_alloc ?_ _)) hbe)
      go_ret
      exact ⟨_, rfl, by simpa using hown, (by (try show Ex _ _); with_reducible repeat (first | exact ex_refl _ | assumption | refine ex_drewL ?_ | refine ex_appR ?_ _ | refine ex_wx ?_ _ | refine ex_drew ?_ | refine ex_alloc ?_ _))⟩
    · obtain rfl : m = n := by omega
      have e2 : (m : Int) ≤ c := by omega
      have e4 : ¬ (12 : Int) < m := by omega
      have e5 : min (m : Int) 12 = m := by omega
      clear hm
      go_enter Tryd.func56, Tryd.ntmps56
      go_wp2_with (at_builtin; refine wpAppS _ _ rfl rfl (ownd_empty (Z := w.heap.size) (by (try show Ex _ _); with_reducible repeat (first | exact ex_refl _ | assumption | refine ex_drewL ?_ | refine ex_appR ?_ _ | refine ex_wx ?_ _ | refine ex_drew ?_ | refine ex_alloc ?_ _)) (by simp [go_sem]) (by simp [go_sem])) rfl rfl HR.out (hst.ex (by (try show Ex _ _); with_reducible repeat (first | exact ex_refl _ | assumption | refine ex_drewL ?_ | refine ex_appR ?_ _ | refine ex_wx ?_ _ | refine ex_drew ?_ | refine ex_alloc ?_ _))) (by have := HR.out; simp; omega) (by simp [go_sem]) (fun v1 w1 hown hbe => ?_); obtain ⟨X1, rfl⟩ := exOf (A := w) (by (try show Ex _ _); with_reducible repeat (first | exact ex_refl _ | assumption | refine ex_drewL ?_ | refine ex_appR ?_ _ | refine ex_wx ?_ _ | refine ex_drew ?_ | refine ex_alloc ?_ _)) hbe)
      go_ret
      exact ⟨_, rfl, by simpa using hown, (by (try show Ex _ _); with_reducible repeat (first | exact ex_refl _ | assumption | refine ex_drewL ?_ | refine ex_appR ?_ _ | refine ex_wx ?_ _ | refine ex_drew ?_ | refine ex_alloc ?_ _))⟩
end Go.Proofs.YtcdocklbpfdmeaaDoor

/- Collide's laws: leaves. -/
set_option linter.unusedSimpArgs false
set_option linter.unusedVariables false
set_option linter.unnecessarySimpa false
set_option maxRecDepth 20000
namespace Go.Proofs.YtcdocklbpfdmeaaDoor
open Go.RowKit
/-- A row of byte strings of the call's own. -/
structure OwnLs (w : World) (Z : Nat) (v : Value) (l : List (List UInt8)) : Prop where
  out : ∃ vs : List Value, vs.length = l.length ∧ w.ownsRow Z 35 1 v l.length vs ∧ ∀ i (hi : i < vs.length) b, l[i]? = some b → OwnU w (vs[i]) b
theorem OwnLs.ex {w w' : World} {Z : Nat} {v : Value} {l : List (List UInt8)} (h : OwnLs w Z v l) (k : Ex w w') : OwnLs w' Z v l := by
  obtain ⟨vs, h1, h2, h3⟩ := h.out
  exact ⟨vs, h1, owns_ex h2 k, fun i hi b hb => (h3 i hi b hb).ex k⟩
theorem OwnLs.nil (w : World) (Z : Nat) : OwnLs w Z (.slice none 0 0) [] := ⟨[], rfl, owns_nil _ _ _ _, fun i hi => by simp at hi⟩
end Go.Proofs.YtcdocklbpfdmeaaDoor

/- Collide's laws: claim, Same, Is, Digest. -/
set_option linter.unusedSimpArgs false
set_option linter.unusedVariables false
set_option linter.unnecessarySimpa false
set_option maxRecDepth 20000
namespace Go.Proofs.YtcdocklbpfdmeaaDoor
open Go.RowKit
theorem info_claim : (Tryd.prog.info? 67).map (·.size) = some 3 := by kernel_rfl
@[go_sem] theorem load_claim (b o : Nat) (w : World) : loadRun Tryd.prog 67 (.pointer (some ⟨b, o, none⟩)) w = match cellsN w b o 3 with | some cs => .ok (.value (.agg cs)) w | none => loadRaw Tryd.prog 67 (.pointer (some ⟨b, o, none⟩)) w := loadRun_row Tryd.underlying67 rfl info_claim b o w
@[go_sem] theorem store_claim (b o : Nat) (vs : Array Value) (w : World) : storeRun Tryd.prog 67 (.pointer (some ⟨b, o, none⟩)) (.agg vs) w = if (vs.size == 3 && (cellsN w b o 3).isSome && !frozenN w b o 3 && oneCells vs) = true then .ok .skip (w.setCells b o vs.toList) else storeRaw Tryd.prog 67 (.pointer (some ⟨b, o, none⟩)) (.agg vs) w := storeRun_row info_claim b o vs w
theorem OwnU.turn {w : World} {X : More} {cs cs' : Array Value} {t : TypeId} {v : Value} {l : List UInt8} (h : OwnU (wx (w.alloc (.cells cs t)) X) v l) (ht : t ≠ 5) : OwnU (wx (w.alloc (.cells cs' t)) X) v l :=
  h.frm (nou_type (turn_block _ _ _) ht) (frm_turn _ _ _ _)
theorem OwnD.turn {w : World} {X : More} {cs cs' : Array Value} {t : TypeId} {v : Value} {Z : Nat} {l : List Dg} (h : OwnD (wx (w.alloc (.cells cs t)) X) Z v l) (ht : t ≠ 46) : OwnD (wx (w.alloc (.cells cs' t)) X) Z v l :=
  owns_frm h (fun b cs2 fr hb h2 => by
    have hb : b = w.heap.size := hb
    subst hb
    rw [turn_block] at h2
    cases h2
    exact ht rfl) (frm_turn _ _ _ _)
/-- Is it a clash? -/
def isC (W : Int) (a b : List UInt8) : Bool := wideB W && (!decide (a = b) && decide (sumW W.toNat a = sumW W.toNat b))
theorem wsumG {w0 : World} (G : Glob w0) {w : World} (k0 : Ex w0 w) (n : Nat) (hn : n ≤ 256) {v : Value} {l : List UInt8} {w' : World} (k : Ex w w') (hs : SlT w' v l) (h48 : l.length ≤ 1000000) :
    Calls Tryd.prog 61 #[I n, v] w' (Post w' (.agg (rowB 32 (dF (sumW n l))))) := wsum_any G n hn (ex_trans k0 k) hs h48
set_option maxHeartbeats 1000000 in
theorem wis_any {w0 : World} (G : Glob w0)(W : Int) {sa sb : Value} {a b : List UInt8} {w : World} (k0 : Ex w0 w)(h1 : SlT w sa a) (h2 : SlT w sb b) (l1 : a.length ≤ 1000000) (l2 : b.length ≤ 1000000) :
    Calls Tryd.prog 16 #[I W, .agg #[sa, sb]] w (Post w (.bool (isC W a b))) := by
  have HW := Lib.hid fun w' => wide_any W w'
  have HE := Lib.hid fun w' (k : Ex w w') => bytesEq_any (h1.ex k) (h2.ex k)
  have HA : Hid (wideB W = true → ∀ w', Ex w w' → Calls Tryd.prog 61 #[I W, sa] w' (Post w' (.agg (rowB 32 (dF (sumW W.toNat a)))))) := Lib.hid fun hw w' k => by
    have hw := of_decide_eq_true hw
    obtain ⟨N, rfl⟩ : ∃ N : Nat, W = N := ⟨W.toNat, by omega⟩
    exact wsumG G k0 N (by omega) k (h1.ex k) l1
  have HB : Hid (wideB W = true → ∀ w', Ex w w' → Calls Tryd.prog 61 #[I W, sb] w' (Post w' (.agg (rowB 32 (dF (sumW W.toNat b)))))) := Lib.hid fun hw w' k => by
    have hw := of_decide_eq_true hw
    obtain ⟨N, rfl⟩ : ∃ N : Nat, W = N := ⟨W.toNat, by omega⟩
    exact wsumG G k0 N (by omega) k (h2.ex k) l2
  have he := eqD (sumW W.toNat a) (sumW W.toNat b)
  unfold isC
  obtain ⟨aa, ac, rfl, _⟩ := h1.out
  obtain ⟨ba, bc, rfl, _⟩ := h2.out
  generalize sumW W.toNat a = x at HA he ⊢
  generalize sumW W.toNat b = y at HB he ⊢
  generalize decide (x = y) = xy at he ⊢
  generalize decide (a = b) = ab at HE ⊢
  generalize wideB W = wd at HW HA HB ⊢
  clear h1 h2
  cases wd with
  | false =>
    have HW2 : Hid (∀ w', Calls Tryd.prog _ #[I W] w' (Post w' (.bool false))) := HW
    rw [Bool.false_and]
    clear HA HB HE HW
    go_enter Tryd.func16, Tryd.ntmps16
    go_wp2
    refine wp_region_seq [(0, true), (1, false), (2, true), (3, true), (4, true), (5, true), (6, true), (7, false), (8, true), (9, true), (10, true), (11, true), (12, true), (13, true), (15, true), (16, true), (17, true), (14, false), (18, false), (19, true), (20, true), (21, true)] (by kernel_rfl) (by kernel_rfl) (fun _ _ d _ _ h => by cases d <;> exact h) ?_
    simp only [List.map_cons, List.map_nil, nth]
    repeat (first | ((with_reducible refine wpSeq_look ?_); go_big_quiet_step (fail); (with_reducible refine wpQuiet_nil ?_)) | ((with_reducible refine wpSeq_effF ?_ ?_); (focus rfl); go_simp) | ((with_reducible refine wpSeq_eff ?_ ?_); (focus rfl); (try dsimp only); go_wp2_with (((with_reducible refine (HW2.out _).mono ?_); rintro e w2 ⟨rfl, X, rfl⟩)); refine mixQ_mk (by (try show Ex _ _); with_reducible repeat (first | exact ex_refl _ | assumption | refine ex_drewL ?_ | refine ex_appR ?_ _ | refine ex_wx ?_ _ | refine ex_drew ?_ | refine ex_alloc ?_ _)) ?_))
    refine wpSeq_nil ?_
    go_wp2
    go_ret
    exact post_mk rfl (by (try show Ex _ _); with_reducible repeat (first | exact ex_refl _ | assumption | refine ex_drewL ?_ | refine ex_appR ?_ _ | refine ex_wx ?_ _ | refine ex_drew ?_ | refine ex_alloc ?_ _))
  | true =>
    have HW2 : Hid (∀ w', Calls Tryd.prog _ #[I W] w' (Post w' (.bool true))) := HW
    have HA2 := Lib.hid (HA.out rfl)
    have HB2 := Lib.hid (HB.out rfl)
    rw [Bool.true_and]
    clear HA HB HW
    have tok : True := trivial
    cases ab with
    | true =>
      have HE2 : Hid (∀ w', Ex w w' → Calls Tryd.prog _ _ w' (Post w' (.bool true))) := HE
      rw [Bool.not_true, Bool.false_and]
      go_enter Tryd.func16, Tryd.ntmps16
      go_wp2
      refine wp_region_seq [(0, true), (1, false), (2, true), (3, true), (4, true), (5, true), (6, true), (7, false), (8, true), (9, true), (10, true), (11, true), (12, true), (13, true), (15, true), (16, true), (17, true), (14, false), (18, false), (19, true), (20, true), (21, true)] (by kernel_rfl) (by kernel_rfl) (fun _ _ d _ _ h => by cases d <;> exact h) ?_
      simp only [List.map_cons, List.map_nil, nth]
      repeat (first | ((with_reducible refine wpSeq_look ?_); go_big_quiet_step (fail); (with_reducible refine wpQuiet_nil ?_)) | ((with_reducible refine wpSeq_effF ?_ ?_); (focus rfl); go_simp) | ((with_reducible refine wpSeq_eff ?_ ?_); (focus rfl); (try dsimp only); go_wp2_with (first | ((with_reducible refine (HW2.out _).mono ?_); rintro e w2 ⟨rfl, X, rfl⟩) | ((with_reducible refine (HE2.out _ (by (try show Ex _ _); with_reducible repeat (first | exact ex_refl _ | assumption | refine ex_drewL ?_ | refine ex_appR ?_ _ | refine ex_wx ?_ _ | refine ex_drew ?_ | refine ex_alloc ?_ _))).mono ?_); rintro e w2 ⟨rfl, X, rfl⟩)); refine mixQ_mk (by (try show Ex _ _); with_reducible repeat (first | exact ex_refl _ | assumption | refine ex_drewL ?_ | refine ex_appR ?_ _ | refine ex_wx ?_ _ | refine ex_drew ?_ | refine ex_alloc ?_ _)) ?_))
      refine wpSeq_nil ?_
      go_wp2
      go_ret
      exact post_mk rfl (by (try show Ex _ _); with_reducible repeat (first | exact ex_refl _ | assumption | refine ex_drewL ?_ | refine ex_appR ?_ _ | refine ex_wx ?_ _ | refine ex_drew ?_ | refine ex_alloc ?_ _))
    | false =>
      have HE2 : Hid (∀ w', Ex w w' → Calls Tryd.prog _ _ w' (Post w' (.bool false))) := HE
      rw [Bool.not_false, Bool.true_and]
      go_enter Tryd.func16, Tryd.ntmps16
      go_wp2
      refine wp_region_seq [(0, true), (1, false), (2, true), (3, true), (4, true), (5, true), (6, true), (7, false), (8, true), (9, true), (10, true), (11, true), (12, true), (13, true), (15, true), (16, true), (17, true), (14, false), (18, false), (19, true), (20, true), (21, true)] (by kernel_rfl) (by kernel_rfl) (fun _ _ d _ _ h => by cases d <;> exact h) ?_
      simp only [List.map_cons, List.map_nil, nth]
      repeat (first | ((with_reducible refine wpSeq_look ?_); go_big_quiet_step (fail); (with_reducible refine wpQuiet_nil ?_)) | ((with_reducible refine wpSeq_effF ?_ ?_); (focus rfl); go_simp) | ((with_reducible refine wpSeq_eff ?_ ?_); (focus rfl); (try dsimp only); go_wp2_with (first | ((with_reducible refine (HW2.out _).mono ?_); rintro e w2 ⟨rfl, X, rfl⟩) | ((with_reducible refine (HE2.out _ (by (try show Ex _ _); with_reducible repeat (first | exact ex_refl _ | assumption | refine ex_drewL ?_ | refine ex_appR ?_ _ | refine ex_wx ?_ _ | refine ex_drew ?_ | refine ex_alloc ?_ _))).mono ?_); rintro e w2 ⟨rfl, X, rfl⟩) | (have _t := tok; clear tok; (with_reducible refine (HA2.out _ (by (try show Ex _ _); with_reducible repeat (first | exact ex_refl _ | assumption | refine ex_drewL ?_ | refine ex_appR ?_ _ | refine ex_wx ?_ _ | refine ex_drew ?_ | refine ex_alloc ?_ _))).mono ?_); rintro e w2 ⟨rfl, X, rfl⟩) | ((with_reducible refine (HB2.out _ (by (try show Ex _ _); with_reducible repeat (first | exact ex_refl _ | assumption | refine ex_drewL ?_ | refine ex_appR ?_ _ | refine ex_wx ?_ _ | refine ex_drew ?_ | refine ex_alloc ?_ _))).mono ?_); rintro e w2 ⟨rfl, X, rfl⟩)); refine mixQ_mk (by (try show Ex _ _); with_reducible repeat (first | exact ex_refl _ | assumption | refine ex_drewL ?_ | refine ex_appR ?_ _ | refine ex_wx ?_ _ | refine ex_drew ?_ | refine ex_alloc ?_ _)) ?_))
      refine wpSeq_nil ?_
      go_wp2
      go_ret
      exact post_mk rfl (by (try show Ex _ _); with_reducible repeat (first | exact ex_refl _ | assumption | refine ex_drewL ?_ | refine ex_appR ?_ _ | refine ex_wx ?_ _ | refine ex_drew ?_ | refine ex_alloc ?_ _))
set_option maxHeartbeats 1000000 in
theorem wdigest_any {w0 : World} (G : Glob w0) (W : Int) {v : Value} {l : List UInt8} {w : World} (k0 : Ex w0 w) (hs : SlT w v l) (h48 : l.length ≤ 1000000) :
    Calls Tryd.prog 23 #[I W, v] w (Post w (if wideB W = true then .tuple #[.agg (rowB 32 (dF (sumW W.toNat l))), I 0] else .tuple #[.agg (rowB 32 (dF zeroD)), I 2])) := by
  have HW := Lib.hid fun w' => wide_any W w'
  by_cases hw : wideB W = true
  · rw [if_pos hw]
    rw [hw] at HW
    have hw := of_decide_eq_true hw
    obtain ⟨N, rfl⟩ : ∃ N : Nat, W = N := ⟨W.toNat, by omega⟩
    rw [Int.toNat_natCast]
    have HS := Lib.hid fun w' (k : Ex w w') => wsum_any G N (by omega) (ex_trans k0 k) (hs.ex k) h48
    generalize sumW N l = x at HS ⊢
    go_enter Tryd.func23, Tryd.ntmps23
    go_wp2_with (first | (go_at_call 60; (with_reducible refine (HW.out _).mono ?_); rintro e w2 ⟨rfl, X, rfl⟩) | (go_at_call 61; (with_reducible refine (HS.out _ (by (try show Ex _ _); with_reducible repeat (first | exact ex_refl _ | assumption | refine ex_drewL ?_ | refine ex_appR ?_ _ | refine ex_wx ?_ _ | refine ex_drew ?_ | refine ex_alloc ?_ _))).mono ?_); rintro e w2 ⟨rfl, X, rfl⟩))
    exact ret_rowV (cs := rowB 32 (dF x)) Tryd.results23 Tryd.underlying46 rfl info_id rfl (by simp [go_sem]) rfl rfl (post_mk rfl (by (try show Ex _ _); with_reducible repeat (first | exact ex_refl _ | assumption | refine ex_drewL ?_ | refine ex_appR ?_ _ | refine ex_wx ?_ _ | refine ex_drew ?_ | refine ex_alloc ?_ _)))
  · have hf : wideB W = false := by simpa using hw
    rw [if_neg hw, row_zeroC]
    rw [hf] at HW
    go_enter Tryd.func23, Tryd.ntmps23
    go_wp2_with (go_at_call 60; (with_reducible refine (HW.out _).mono ?_); rintro e w2 ⟨rfl, X, rfl⟩)
    exact ret_rowV (cs := rowB 32 fun _ => 0) Tryd.results23 Tryd.underlying46 rfl info_id rfl (by simp [go_sem]) rfl rfl (post_mk rfl (by (try show Ex _ _); with_reducible repeat (first | exact ex_refl _ | assumption | refine ex_drewL ?_ | refine ex_appR ?_ _ | refine ex_wx ?_ _ | refine ex_drew ?_ | refine ex_alloc ?_ _)))
end Go.Proofs.YtcdocklbpfdmeaaDoor
