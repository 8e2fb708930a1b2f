import Derived.Test.YtcdocklbpfdmeaaDoorMSpA
import Derived.Test.YtcdocklbpfdmeaaDoorMGwB
import Derived.Test.YtcdocklbpfdmeaaDoorMCoQ
import Derived.Test.YtcdocklbpfdmeaaDoorMSeqH

/- Collide: the spanner in memory; next. -/
set_option linter.unusedSimpArgs false
set_option linter.unusedVariables false
set_option linter.unnecessarySimpa false
set_option maxRecDepth 20000
namespace Go.Proofs.YtcdocklbpfdmeaaDoor
open Go.RowKit
/-- The spanner's block: the walker, the counts, the pairs, what is left of the path. -/
structure Sp (A w : World) (q p : Nat) (T F : Int) (pv : Value) (qs : List Dg) : Prop where
  out : ∃ qa qc, w.heap[q]? = some (.cells #[.pointer (some ⟨p, 0, none⟩), I T, I F, pv, .slice qa qs.length qc] 143 (0, 0)) ∧ qs.length ≤ qc ∧ qc ≤ maxLen ∧ SlD A qa qs
theorem Sp.frm {A w w' : World} {q p : Nat} {T F : Int} {pv : Value} {qs : List Dg} {P : Nat → Prop} (h : Sp A w q p T F pv qs) (k : Frm P w w') (hq : ¬ P q) : Sp A w' q p T F pv qs := by
  obtain ⟨qa, qc, h1, h2⟩ := h.out
  exact ⟨qa, qc, (k.same q (Array.getElem?_eq_some_iff.1 h1).1 hq).trans h1, h2⟩
theorem Sp.ex {A w w' : World} {q p : Nat} {T F : Int} {pv : Value} {qs : List Dg} (h : Sp A w q p T F pv qs) (k : Ex w w') : Sp A w' q p T F pv qs := h.frm (Frm.ex (F := fun _ => False) k) (fun h => h)
theorem Sp.lt {A w : World} {q p : Nat} {T F : Int} {pv : Value} {qs : List Dg} (h : Sp A w q p T F pv qs) : q < w.heap.size := by
  obtain ⟨qa, qc, h1, h2⟩ := h.out
  exact (Array.getElem?_eq_some_iff.1 h1).1
theorem Sp.nok {A w : World} {q p : Nat} {T F : Int} {pv : Value} {qs : List Dg} (h : Sp A w q p T F pv qs) : NoK w (fun b => b = q) := by
  obtain ⟨qa, qc, h1, h2⟩ := h.out
  exact nok_type h1 (by decide) (by decide) (by decide)
theorem Sp.nou {A w : World} {q p : Nat} {T F : Int} {pv : Value} {qs : List Dg} (h : Sp A w q p T F pv qs) : NoU w (fun b => b = q) := by
  obtain ⟨qa, qc, h1, h2⟩ := h.out
  exact nou_type h1 (by decide)
theorem Sp.ne {A w : World} {q p W : Nat} {T F : Int} {pv : Value} {qs : List Dg} {c : Cl} (h : Sp A w q p T F pv qs) (k : Wk w p W c) : q ≠ p := fun e => by
  obtain ⟨qa, qc, h1, h2⟩ := h.out
  obtain ⟨v, h3, _⟩ := k.out
  subst e
  rw [h1] at h3
  cases h3
theorem Sp.cells {A w : World} {q p : Nat} {T F : Int} {pv : Value} {qs : List Dg} (h : Sp A w q p T F pv qs) : w.cell? ⟨q, 0, none⟩ = some (.pointer (some ⟨p, 0, none⟩)) ∧ w.cell? ⟨q, 1, none⟩ = some (I T) ∧ w.cell? ⟨q, 2, none⟩ = some (I F) ∧ w.cell? ⟨q, 3, none⟩ = some pv ∧ (∃ qa qc, w.cell? ⟨q, 4, none⟩ = some (.slice qa qs.length qc)) ∧ q < w.heap.size := by
  obtain ⟨qa, qc, h1, h2⟩ := h.out
  exact ⟨(block_cellF h1 rfl).1, (block_cellF h1 rfl).1, (block_cellF h1 rfl).1, (block_cellF h1 rfl).1, ⟨qa, qc, (block_cellF h1 rfl).1⟩, (Array.getElem?_eq_some_iff.1 h1).1⟩
theorem next_none {A : World} {q p : Nat} {T F : Int} {pv : Value} {w : World} (h : Sp A w q p T F pv []) :
    Calls Tryd.prog 132 #[.pointer (some ⟨q, 0, none⟩)] w (fun e w' => e = offE ∧ Ex w w') := by
  obtain ⟨qa, qc, h1, _⟩ := h.out
  have c4 := (block_cellF (o := 4) h1 rfl).1
  have z := cell_lt c4
  rw [List.length_nil] at c4
  clear h h1
  go_enter Tryd.func132, Tryd.ntmps132
  go_wp2
  exact ⟨rfl, rfl, (by (try show Ex _ _); with_reducible repeat (first | exact ex_refl _ | assumption | refine ex_drewL ?_ | refine ex_appR ?_ _ | refine ex_wx ?_ _ | refine ex_drew ?_ | refine ex_alloc ?_ _))⟩
theorem sp_turn {A w w' : World} {q p : Nat} {T F : Int} {pv : Value} {qs qs' : List Dg} {qa : Option Addr} {qc : Nat} (h : Sp A w q p T F pv qs) (k : Ex (w.setCell ⟨q, 4, none⟩ (.slice qa qs'.length qc)) w') (h1 : qs'.length ≤ qc) (h2 : qc ≤ maxLen) (h3 : SlD A qa qs') : Frm (fun b => b = q) w w' ∧ Sp A w' q p T F pv qs' := by
  obtain ⟨qa0, qc0, h4, _⟩ := h.out
  refine ⟨((Frm.refl (fun b => b = q) w).set (b := q) rfl 4 _).trans (Frm.ex k), qa, qc, ex_block k ?_, h1, h2, h3⟩
  rw [setCellF_block _ h4]
  rfl
set_option maxHeartbeats 1000000 in
theorem next_some {A : World} {q p : Nat} {T F : Int} {pv : Value} {x : Dg} {r : List Dg} {w : World} (kA : Ex A w) (h : Sp A w q p T F pv (x :: r)) :
    Calls Tryd.prog 132 #[.pointer (some ⟨q, 0, none⟩)] w (fun e w' => e = .returned (.agg (rowB 32 (dF x))) ∧ Frm (fun b => b = q) w w' ∧ Sp A w' q p T F pv r) := by
  obtain ⟨qa, qc, h1, hc, hm, hs⟩ := h.out
  obtain ⟨c4, f4⟩ := block_cellF (o := 4) h1 rfl
  have z := cell_lt c4
  obtain ⟨g, off, rfl, hg, hcell⟩ := hs.pos (by simp)
  have hx := (hs.ex kA).at (i := 0) (d := x) rfl
  rw [Nat.zero_mul, Nat.add_zero] at hx
  obtain ⟨hx1, hx2⟩ := hx
  have hd := hs.drop 1
  have HS := Lib.hid h
  rw [List.length_cons] at c4 hc
  have HD : Hid (∀ a, (qc = 1 → r = [] ) → ((¬ qc = 1 → a = some ⟨g, off + 32, none⟩) → SlD A a r)) := Lib.hid fun a h1 h2 => by
    by_cases hq : qc = 1
    · rw [h1 hq]; exact SlD.nil _ _
    · rw [h2 hq]; simpa using hd
  have e0 : ((r.length : Int) + 1 == 0) = false := beq_eq_false_iff_ne.2 (by omega)
  have HE := Lib.hid (fun (a : Option Addr) (w' : World) (h2 : Ex (w.setCell ⟨q, 4, none⟩ (.slice a r.length (qc - 1))) w') (h3 : SlD A a r) => sp_turn (qs' := r) HS.out h2 (by omega) (by omega) h3)
  have hr : qc = 1 → r = [] := fun h => List.eq_nil_of_length_eq_zero (by omega)
  have HR := Lib.hid hr
  clear hcell hs hd h1 h hr
  unfold maxLen at hm
  by_cases hq : qc = 1
  · subst hq
    obtain rfl := HR.out rfl
    have HE1 : Hid (∀ w', Ex (w.setCell ⟨q, 4, none⟩ (.slice (some ⟨g, off, none⟩) 0 0)) w' → Frm (fun b => b = q) w w' ∧ Sp A w' q p T F pv []) := Lib.hid fun w' h => HE.out (some ⟨g, off, none⟩) w' h (SlD.nil _ _)
    go_enter Tryd.func132, Tryd.ntmps132
    go_wp2
    exact ret_row (cs := rowB 32 (dF x)) Tryd.results132 Tryd.underlying46 rfl info_id rfl (by simp [go_sem]) rfl ⟨rfl, HE1.out _ (by (try show Ex _ _); with_reducible repeat (first | exact ex_refl _ | assumption | refine ex_drewL ?_ | refine ex_appR ?_ _ | refine ex_wx ?_ _ | refine ex_drew ?_ | refine ex_alloc ?_ _))⟩
  · have HD2 : Hid (SlD A (some ⟨g, off + 32, none⟩) r) := Lib.hid (HD.out _ HR.out fun _ => rfl)
    clear HD
    generalize r.length = n at *
    go_enter Tryd.func132, Tryd.ntmps132
    go_wp2
    exact ret_row (cs := rowB 32 (dF x)) Tryd.results132 Tryd.underlying46 rfl info_id rfl (by simp [go_sem]) rfl ⟨rfl, HE.out _ _ (by (try show Ex _ _); with_reducible repeat (first | exact ex_refl _ | assumption | refine ex_drewL ?_ | refine ex_appR ?_ _ | refine ex_wx ?_ _ | refine ex_drew ?_ | refine ex_alloc ?_ _)) HD2.out⟩
end Go.Proofs.YtcdocklbpfdmeaaDoor

/- Collide: the top of a span: outside the pairs; one pair. -/
set_option linter.unusedSimpArgs false
set_option linter.unusedVariables false
set_option linter.unnecessarySimpa false
set_option maxRecDepth 20000
namespace Go.Proofs.YtcdocklbpfdmeaaDoor
open Go.RowKit
/-- All but two blocks are kept. -/
abbrev FrQ (p q : Nat) (w w' : World) : Prop := Frm (fun b => b = p ∨ b = q) w w'
theorem FrQ.ofP {p q : Nat} {w w' : World} (h : FrP p w w') : FrQ p q w w' := h.mono fun b e => Or.inl e
theorem FrQ.ofQ {p q : Nat} {w w' : World} (h : Frm (fun b => b = q) w w') : FrQ p q w w' := h.mono fun b e => Or.inr e
def PostTs (A : World) (p q W : Nat) (T F : Int) (pv : Value) (w : World) (o : Option (Dg × List Dg × Cl)) (e : Ending) (w' : World) : Prop := match o with
  | some x => e = .returned (.agg (rowB 32 (dF x.1))) ∧ FrQ p q w w' ∧ Wk w' p W x.2.2 ∧ Sp A w' q p T F pv x.2.1
  | none => e = offE ∧ FrQ p q w w' ∧ ∃ c, Wk w' p W c
theorem frG32 {P : Nat → Prop} {r : Nat} {A w5 : World} {cs : Array Value} (k : Frm P A w5) (hi : IdB A r) (hn : ¬ P r) (hc : cellsN A r 0 32 = some cs) (hf : frozenN A r 0 32 = false) : cellsN w5 r 0 32 = some cs ∧ frozenN w5 r 0 32 = false ∧ r < w5.heap.size ∧ IdB w5 r := by
  obtain ⟨ds, fr, hi⟩ := hi.out
  have hz := (Array.getElem?_eq_some_iff.1 hi).1
  have hs := k.same r hz hn
  refine ⟨?_, ?_, Nat.lt_of_lt_of_le hz k.size, ⟨ds, fr, hs.trans hi⟩⟩
  · rw [← hc]; exact cellsN_congr fun j _ => by simp only [World.cell?, hs]
  · rw [← hf]; exact frozenN_congr fun j _ => by simp only [World.frozen?, hs]
/-- The row that is handed back, behind a turn of two blocks. -/
theorem q_end {A w A0 w5 : World} {p q W r : Nat} {T F : Int} {pv : Value} {qs : List Dg} {c : Cl} (kw : Ex w A0) (hr : w.heap.size ≤ r) (hb : A0.heap[r]? = some (.cells (rowB 32 fun _ => 0) 46 (0, 0))) (F5 : FrQ p q A0 w5) (K5 : Wk w5 p W c) (S5 : Sp A w5 q p T F pv qs) (hp : r ≠ p) (hq : r ≠ q) :
    (cellsN w5 r 0 32 = some (rowB 32 fun _ => 0) ∧ frozenN w5 r 0 32 = false ∧ r < w5.heap.size) ∧
    ∀ x : Dg, cellsN (w5.setCells r 0 (rowB 32 (dF x)).toList) r 0 32 = some (rowB 32 (dF x)) ∧ FrQ p q w (w5.setCells r 0 (rowB 32 (dF x)).toList) ∧ Wk (w5.setCells r 0 (rowB 32 (dF x)).toList) p W c ∧ Sp A (w5.setCells r 0 (rowB 32 (dF x)).toList) q p T F pv qs := by
  have b5 : w5.heap[r]? = some (.cells (rowB 32 fun _ => 0) 46 (0, 0)) := (F5.same r (Array.getElem?_eq_some_iff.1 hb).1 (by rintro (e | e); exact hp e; exact hq e)).trans hb
  refine ⟨block_cellsF b5 (by simp), fun x => ?_⟩
  have b6 := setCells_block r 46 (0, 0) (rowB 32 (dF x)).toList 0 w5 _ b5
  rw [spliceA_all _ _ (by simp)] at b6
  exact ⟨(block_cellsF b6 (by simp)).1, ((Frm.ex kw : FrQ p q w A0).trans F5).setsNew hr _ _, K5.setsR ⟨_, _, b5⟩ _ _, S5.frm (frm_sets (r := r) 0 _) (fun e => hq e.symm)⟩
set_option maxHeartbeats 1000000 in
theorem span_out {A : World} {p q W : Nat} {T : Int} {F : Nat} {pa : Option Addr} {pn pc : Nat} (at_ n : Nat) (ho : at_ + n ≤ F ∨ F + pn ≤ at_) (h1 : at_ ≤ 1000) (h2 : n ≤ 1000) (h3 : F ≤ 1000) (h4 : pn ≤ 1000) (h5 : pn ≤ pc) (h6 : pc ≤ maxLen) (qs : List Dg) (lv : Value) (c : Cl) (w : World) (kA : Ex A w) (hk : Wk w p W c) (hs : Sp A w q p T F (.slice pa pn pc) qs) :
    Calls Tryd.prog 99 #[.pointer (some ⟨q, 0, none⟩), I at_, I n, lv] w (PostTs A p q W T F (.slice pa pn pc) w ((popD qs).map fun x => (x.1, x.2, c))) := by
  obtain ⟨c0, c1, c2, c3, _, zq⟩ := hs.cells
  have hne := hs.ne hk
  have HK := Lib.hid hk
  have hpw := hk.lt
  have t1 : decide ((at_ : Int) + n ≤ F) = true ∨ (decide ((at_ : Int) + n ≤ F) = false ∧ decide ((F : Int) + pn ≤ at_) = true) := by
    by_cases h : at_ + n ≤ F
    · exact Or.inl (decide_eq_true (by omega))
    · exact Or.inr ⟨decide_eq_false (by omega), decide_eq_true (by omega)⟩
  unfold maxLen at h6
  cases qs with
  | nil =>
    have HN := Lib.hid fun w' (k : Ex w w') => next_none (hs.ex k)
    have e0 : (popD ([] : List Dg)).map (fun x => (x.1, x.2, c)) = none := rfl
    rw [e0]
    clear hk hs ho
    rcases t1 with t1 | ⟨t1, t2⟩
    · go_enter Tryd.func99, Tryd.ntmps99
      go_wp2
      refine wp_region_seq [(0, true), (1, true), (2, true), (3, true), (4, true), (5, true), (6, true), (7, true), (8, true), (9, true), (10, true), (11, true), (12, true), (13, true), (14, true), (15, true), (16, true), (17, true), (18, true), (19, true), (20, true), (21, true), (22, true), (23, true), (24, true)] (by kernel_rfl) (by kernel_rfl) (fun _ _ d _ _ h => by cases d <;> exact h) ?_
      simp only [List.map_cons, List.map_nil, nth]
      repeat (first | ((with_reducible refine wpSeq_look ?_); go_big_quiet_step (fail); (with_reducible refine wpQuiet_nil ?_)) | ((with_reducible refine wpSeq_effF ?_ ?_); (focus rfl); go_simp) | ((with_reducible refine wpSeq_eff ?_ ?_); (focus rfl); (try dsimp only); go_wp2_with (fail); refine mixQ_mk (by (try show Ex _ _); with_reducible repeat (first | exact ex_refl _ | assumption | refine ex_drewL ?_ | refine ex_appR ?_ _ | refine ex_wx ?_ _ | refine ex_drew ?_ | refine ex_alloc ?_ _)) ?_))
      refine wpSeq_nil ?_
      go_wp2_with (go_at_call 132; (with_reducible refine (HN.out _ (by (try show Ex _ _); with_reducible repeat (first | exact ex_refl _ | assumption | refine ex_drewL ?_ | refine ex_appR ?_ _ | refine ex_wx ?_ _ | refine ex_drew ?_ | refine ex_alloc ?_ _))).mono ?_); rintro e w2 ⟨rfl, k2⟩; dsimp only [offE])
      exact ⟨rfl, rfl, Frm.ex (ex_trans (by (try show Ex _ _); with_reducible repeat (first | exact ex_refl _ | assumption | refine ex_drewL ?_ | refine ex_appR ?_ _ | refine ex_wx ?_ _ | refine ex_drew ?_ | refine ex_alloc ?_ _)) k2), c, HK.out.ex (ex_trans (by (try show Ex _ _); with_reducible repeat (first | exact ex_refl _ | assumption | refine ex_drewL ?_ | refine ex_appR ?_ _ | refine ex_wx ?_ _ | refine ex_drew ?_ | refine ex_alloc ?_ _)) k2)⟩
    · go_enter Tryd.func99, Tryd.ntmps99
      go_wp2
      refine wp_region_seq [(0, true), (1, true), (2, true), (3, true), (4, true), (5, true), (6, true), (7, true), (8, true), (9, true), (10, true), (11, true), (12, true), (13, true), (14, true), (15, true), (16, true), (17, true), (18, true), (19, true), (20, true), (21, true), (22, true), (23, true), (24, true)] (by kernel_rfl) (by kernel_rfl) (fun _ _ d _ _ h => by cases d <;> exact h) ?_
      simp only [List.map_cons, List.map_nil, nth]
      repeat (first | ((with_reducible refine wpSeq_look ?_); go_big_quiet_step (fail); (with_reducible refine wpQuiet_nil ?_)) | ((with_reducible refine wpSeq_effF ?_ ?_); (focus rfl); go_simp) | ((with_reducible refine wpSeq_eff ?_ ?_); (focus rfl); (try dsimp only); go_wp2_with (fail); refine mixQ_mk (by (try show Ex _ _); with_reducible repeat (first | exact ex_refl _ | assumption | refine ex_drewL ?_ | refine ex_appR ?_ _ | refine ex_wx ?_ _ | refine ex_drew ?_ | refine ex_alloc ?_ _)) ?_))
      refine wpSeq_nil ?_
      go_wp2_with (go_at_call 132; (with_reducible refine (HN.out _ (by (try show Ex _ _); with_reducible repeat (first | exact ex_refl _ | assumption | refine ex_drewL ?_ | refine ex_appR ?_ _ | refine ex_wx ?_ _ | refine ex_drew ?_ | refine ex_alloc ?_ _))).mono ?_); rintro e w2 ⟨rfl, k2⟩; dsimp only [offE])
      exact ⟨rfl, rfl, Frm.ex (ex_trans (by (try show Ex _ _); with_reducible repeat (first | exact ex_refl _ | assumption | refine ex_drewL ?_ | refine ex_appR ?_ _ | refine ex_wx ?_ _ | refine ex_drew ?_ | refine ex_alloc ?_ _)) k2), c, HK.out.ex (ex_trans (by (try show Ex _ _); with_reducible repeat (first | exact ex_refl _ | assumption | refine ex_drewL ?_ | refine ex_appR ?_ _ | refine ex_wx ?_ _ | refine ex_drew ?_ | refine ex_alloc ?_ _)) k2)⟩
  | cons x r =>
    have HN := Lib.hid fun w' (k : Ex w w') => next_some (ex_trans kA k) (hs.ex k)
    have e0 : (popD (x :: r)).map (fun x => (x.1, x.2, c)) = some (x, r, c) := rfl
    rw [e0]
    have HE := Lib.hid fun (w5 : World) (F5 : Frm (fun b => b = q) (w.alloc (.cells (rowB 32 fun _ => 0) 46)) w5) (S5 : Sp A w5 q p T F (.slice pa pn pc) r) =>
      q_end (W := W) (c := c) (w := w) (r := w.heap.size) (ex_alloc (ex_refl _) _) (Nat.le_refl _) (heap_alloc_new _ _) (FrQ.ofQ F5) ((hk.ex (ex_alloc (ex_refl _) _)).frm (hs.ex (ex_alloc (ex_refl _) _)).nok F5) S5 (by omega) (by omega)
    clear hk hs ho
    unfold PostTs
    simp only
    rcases t1 with t1 | ⟨t1, t2⟩
    · go_enter Tryd.func99, Tryd.ntmps99
      go_wp2
      refine wp_region_seq [(0, true), (1, true), (2, true), (3, true), (4, true), (5, true), (6, true), (7, true), (8, true), (9, true), (10, true), (11, true), (12, true), (13, true), (14, true), (15, true), (16, true), (17, true), (18, true), (19, true), (20, true), (21, true), (22, true), (23, true), (24, true)] (by kernel_rfl) (by kernel_rfl) (fun _ _ d _ _ h => by cases d <;> exact h) ?_
      simp only [List.map_cons, List.map_nil, nth]
      repeat (first | ((with_reducible refine wpSeq_look ?_); go_big_quiet_step (fail); (with_reducible refine wpQuiet_nil ?_)) | ((with_reducible refine wpSeq_effF ?_ ?_); (focus rfl); go_simp) | ((with_reducible refine wpSeq_eff ?_ ?_); (focus rfl); (try dsimp only); go_wp2_with (fail); refine mixQ_mk (by (try show Ex _ _); with_reducible repeat (first | exact ex_refl _ | assumption | refine ex_drewL ?_ | refine ex_appR ?_ _ | refine ex_wx ?_ _ | refine ex_drew ?_ | refine ex_alloc ?_ _)) ?_))
      refine wpSeq_nil ?_
      go_wp2_with (go_at_call 132; (with_reducible refine (HN.out _ (by (try show Ex _ _); with_reducible repeat (first | exact ex_refl _ | assumption | refine ex_drewL ?_ | refine ex_appR ?_ _ | refine ex_wx ?_ _ | refine ex_drew ?_ | refine ex_alloc ?_ _))).mono ?_); rintro e w5 ⟨rfl, F5', S5⟩; obtain ⟨⟨n5, f5, z5⟩, HX⟩ := HE.out w5 ((Frm.ex (by (try show Ex _ _); with_reducible repeat (first | exact ex_refl _ | assumption | refine ex_drewL ?_ | refine ex_appR ?_ _ | refine ex_wx ?_ _ | refine ex_drew ?_ | refine ex_alloc ?_ _))).trans F5') S5; replace HX := Lib.hid HX)
      obtain ⟨x1, x2, x3, x4⟩ := HX.out x
      exact ret_row Tryd.results99 Tryd.underlying46 rfl info_id rfl x1 rfl ⟨rfl, x2, x3, x4⟩
    · go_enter Tryd.func99, Tryd.ntmps99
      go_wp2
      refine wp_region_seq [(0, true), (1, true), (2, true), (3, true), (4, true), (5, true), (6, true), (7, true), (8, true), (9, true), (10, true), (11, true), (12, true), (13, true), (14, true), (15, true), (16, true), (17, true), (18, true), (19, true), (20, true), (21, true), (22, true), (23, true), (24, true)] (by kernel_rfl) (by kernel_rfl) (fun _ _ d _ _ h => by cases d <;> exact h) ?_
      simp only [List.map_cons, List.map_nil, nth]
      repeat (first | ((with_reducible refine wpSeq_look ?_); go_big_quiet_step (fail); (with_reducible refine wpQuiet_nil ?_)) | ((with_reducible refine wpSeq_effF ?_ ?_); (focus rfl); go_simp) | ((with_reducible refine wpSeq_eff ?_ ?_); (focus rfl); (try dsimp only); go_wp2_with (fail); refine mixQ_mk (by (try show Ex _ _); with_reducible repeat (first | exact ex_refl _ | assumption | refine ex_drewL ?_ | refine ex_appR ?_ _ | refine ex_wx ?_ _ | refine ex_drew ?_ | refine ex_alloc ?_ _)) ?_))
      refine wpSeq_nil ?_
      go_wp2_with (go_at_call 132; (with_reducible refine (HN.out _ (by (try show Ex _ _); with_reducible repeat (first | exact ex_refl _ | assumption | refine ex_drewL ?_ | refine ex_appR ?_ _ | refine ex_wx ?_ _ | refine ex_drew ?_ | refine ex_alloc ?_ _))).mono ?_); rintro e w5 ⟨rfl, F5', S5⟩; obtain ⟨⟨n5, f5, z5⟩, HX⟩ := HE.out w5 ((Frm.ex (by (try show Ex _ _); with_reducible repeat (first | exact ex_refl _ | assumption | refine ex_drewL ?_ | refine ex_appR ?_ _ | refine ex_wx ?_ _ | refine ex_drew ?_ | refine ex_alloc ?_ _))).trans F5') S5; replace HX := Lib.hid HX)
      obtain ⟨x1, x2, x3, x4⟩ := HX.out x
      exact ret_row Tryd.results99 Tryd.underlying46 rfl info_id rfl x1 rfl ⟨rfl, x2, x3, x4⟩
end Go.Proofs.YtcdocklbpfdmeaaDoor

/- Collide: the top of a span: one pair. -/
set_option linter.unusedSimpArgs false
set_option linter.unusedVariables false
set_option linter.unnecessarySimpa false
set_option maxRecDepth 20000
namespace Go.Proofs.YtcdocklbpfdmeaaDoor
open Go.RowKit
set_option maxHeartbeats 1000000 in
theorem span_one {w0 A : World} (G : Glob w0) (k0 : Ex w0 A) {p q W : Nat} (hW : W ≤ 256) {T : Int} {F : Nat} {ps : List Pr} {pa : Option Addr} {pc : Nat} (i : Nat) (P : Pr) (hP : ps[i]? = some P) (hPs : SlP A pa ps) (hfit : FitL ps) (h1 : F + i ≤ 1000) (h4 : ps.length ≤ 1000) (h5 : ps.length ≤ pc) (h6 : pc ≤ maxLen) (qs : List Dg) (l : List Pr) (la : Option Addr) (lc : Nat) (hl : l.length ≤ 1) (hlc : l.length ≤ lc) (hlm : lc ≤ maxLen) (hls : SlP A la l) (hlf : FitL l) (c : Cl) (w : World) (kA : Ex A w) (hk : Wk w p W c) (hs : Sp A w q p T F (.slice pa ps.length pc) qs) (hAp : A.heap.size ≤ p) (hAq : A.heap.size ≤ q) :
    Calls Tryd.prog 99 #[.pointer (some ⟨q, 0, none⟩), I ((F : Int) + i), I 1, .slice la l.length lc] w (PostTs A p q W T F (.slice pa ps.length pc) w (some ((putH (sumW W) (leafL P) (l.head?.map leafL) c).1, qs, (putH (sumW W) (leafL P) (l.head?.map leafL) c).2))) := by
  obtain ⟨c0, c1, c2, c3, _, zq⟩ := hs.cells
  have hne := hs.ne hk
  have HK := Lib.hid hk
  have HS := Lib.hid hs
  have hpw := hk.lt
  have hw0 := hk.width
  have hi := (List.getElem?_eq_some_iff.1 hP).1
  have HCl := Lib.hid fun w' => cellB_any P (hfit P (List.mem_of_getElem? hP)) w'
  obtain ⟨g, off, rfl, hg, _⟩ := hPs.pos (by omega)
  obtain ⟨hx1, hx2⟩ := (hPs.ex kA).at hP
  have t1 : decide ((F : Int) + i + 1 ≤ F) = false := decide_eq_false (by omega)
  have t2 : decide ((F : Int) + ps.length ≤ (F : Int) + i) = false := decide_eq_false (by omega)
  have HE := Lib.hid fun (w5 : World) (c5 : Cl) (F5 : FrP p (w.alloc (.cells (rowB 32 fun _ => 0) 46)) w5) (K5 : Wk w5 p W c5) =>
    q_end (W := W) (c := c5) (w := w) (r := w.heap.size) (q := q) (ex_alloc (ex_refl _) _) (Nat.le_refl _) (heap_alloc_new _ _) (FrQ.ofP F5) K5 ((HS.out.ex (ex_alloc (ex_refl _) _)).frm F5 hne) (by omega) (by omega)
  have h5' : (ps.length : Int) ≤ pc := by omega
  unfold maxLen at h6 hlm
  have hgp : g ≠ p := by omega
  generalize ps.length = pn at *
  match l, hl with
  | [], _ =>
    have e0 : putH (sumW W) (leafL P) ((([] : List Pr).head?).map leafL) c = (sumW W (leafL P), c) := rfl
    rw [e0]
    have HSm := Lib.hid fun w' v (k : Ex w w') (h : OwnU w' v (leafL P)) => wsum_any G W hW (ex_trans k0 (ex_trans kA k)) h.slt (by have := leafL_short (p := P); omega)
    generalize sumW W (leafL P) = x at HSm ⊢
    unfold PostTs
    simp only
    rw [List.length_nil] at *
    clear hk hs hls hP hPs
    go_enter Tryd.func99, Tryd.ntmps99
    go_wp2
    refine wp_region_seq [(0, true), (1, true), (2, true), (3, true), (4, true), (5, true), (6, true), (7, true), (8, true), (9, true), (10, true), (11, true), (12, true), (13, true), (14, true), (15, true), (16, true), (17, true), (18, true), (19, true), (20, true), (21, true), (22, true), (23, true), (24, true)] (by kernel_rfl) (by kernel_rfl) (fun _ _ d _ _ h => by cases d <;> exact h) ?_
    simp only [List.map_cons, List.map_nil, nth]
    repeat (first | ((with_reducible refine wpSeq_look ?_); go_big_quiet_step (fail); (with_reducible refine wpQuiet_nil ?_)) | ((with_reducible refine wpSeq_effF ?_ ?_); (focus rfl); go_simp) | ((with_reducible refine wpSeq_eff ?_ ?_); (focus rfl); (try dsimp only); go_wp2_with (fail); refine mixQ_mk (by (try show Ex _ _); with_reducible repeat (first | exact ex_refl _ | assumption | refine ex_drewL ?_ | refine ex_appR ?_ _ | refine ex_wx ?_ _ | refine ex_drew ?_ | refine ex_alloc ?_ _)) ?_))
    refine wpSeq_nil ?_
    go_wp2
    refine wp_region_seq [(0, true), (1, true), (2, true), (3, true), (4, true), (5, true), (6, true), (7, true), (8, true), (9, true), (10, true), (11, true), (12, true), (13, true), (14, false), (15, true)] (by kernel_rfl) (by kernel_rfl) (fun _ _ d _ _ h => by cases d <;> exact h) ?_
    simp only [List.map_cons, List.map_nil, nth]
    repeat (first | ((with_reducible refine wpSeq_look ?_); go_big_quiet_step (fail); (with_reducible refine wpQuiet_nil ?_)) | ((with_reducible refine wpSeq_effF ?_ ?_); (focus rfl); go_simp) | ((with_reducible refine wpSeq_eff ?_ ?_); (focus rfl); (try dsimp only); go_wp2_with ((go_at_call 120; (with_reducible refine (HCl.out _).mono ?_); rintro e w2 ⟨v1, rfl, hv1, X1, rfl⟩; (try simp only [wx_wx, wx_drew] at hv1))); refine mixQ_mk (by (try show Ex _ _); with_reducible repeat (first | exact ex_refl _ | assumption | refine ex_drewL ?_ | refine ex_appR ?_ _ | refine ex_wx ?_ _ | refine ex_drew ?_ | refine ex_alloc ?_ _)) ?_))
    refine wpSeq_nil ?_
    go_wp2_with (go_at_call 61; (with_reducible refine (HSm.out _ _ (by (try show Ex _ _); with_reducible repeat (first | exact ex_refl _ | assumption | refine ex_drewL ?_ | refine ex_appR ?_ _ | refine ex_wx ?_ _ | refine ex_drew ?_ | refine ex_alloc ?_ _)) (OwnU.ex hv1 (by (try show Ex _ _); with_reducible repeat (first | exact ex_refl _ | assumption | refine ex_drewL ?_ | refine ex_appR ?_ _ | refine ex_wx ?_ _ | refine ex_drew ?_ | refine ex_alloc ?_ _)))).mono ?_); rintro e w3 ⟨rfl, X3, rfl⟩)
    obtain ⟨_, HX⟩ := HE.out _ c (Frm.refl _ _) (HK.out.ex (ex_alloc (ex_refl _) _))
    exact ret_row (cs := rowB 32 (dF x)) Tryd.results99 Tryd.underlying46 rfl info_id rfl (by simp [go_sem]) rfl ⟨rfl, Frm.ex (by (try show Ex _ _); with_reducible repeat (first | exact ex_refl _ | assumption | refine ex_drewL ?_ | refine ex_appR ?_ _ | refine ex_wx ?_ _ | refine ex_drew ?_ | refine ex_alloc ?_ _)), HK.out.ex (by (try show Ex _ _); with_reducible repeat (first | exact ex_refl _ | assumption | refine ex_drewL ?_ | refine ex_appR ?_ _ | refine ex_wx ?_ _ | refine ex_drew ?_ | refine ex_alloc ?_ _)), HS.out.ex (by (try show Ex _ _); with_reducible repeat (first | exact ex_refl _ | assumption | refine ex_drewL ?_ | refine ex_appR ?_ _ | refine ex_wx ?_ _ | refine ex_drew ?_ | refine ex_alloc ?_ _))⟩
  | [y], _ =>
    obtain ⟨g2, off2, rfl, hg2, _⟩ := hls.pos (by simp)
    obtain ⟨hy1, hy2⟩ := (hls.ex kA).at (i := 0) (d := y) rfl
    rw [Nat.zero_mul, Nat.add_zero] at hy1
    have HC2 := Lib.hid fun w' => cellB_any y (hlf y (List.mem_singleton.2 rfl)) w'
    have HPt : Hid (∀ w' v u, Ex w w' → OwnU w' v (leafL P) → OwnU w' u (leafL y) → Calls Tryd.prog 100 #[.pointer (some ⟨p, 0, none⟩), v, u] w' (PostK p W w' (.agg (rowB 32 (dF (putC (sumW W) (leafL P) (leafL y) c).1))) (putC (sumW W) (leafL P) (leafL y) c).2)) :=
      Lib.hid fun w' v u k h1 h2 => put_any G W hW (ex_trans k0 (ex_trans kA k)) (HK.out.ex k) h1 h2 (by have := leafL_short (p := P); omega) (by have := leafL_short (p := y); omega)
    have e0 : putH (sumW W) (leafL P) ((([y] : List Pr).head?).map leafL) c = putC (sumW W) (leafL P) (leafL y) c := rfl
    rw [e0]
    generalize putC (sumW W) (leafL P) (leafL y) c = o at HPt ⊢
    obtain ⟨z, c'⟩ := o
    unfold PostTs
    simp only at HPt ⊢
    rw [List.length_singleton] at *
    have hgp2 : g2 ≠ p := by omega
    obtain ⟨PP, hPP⟩ : ∃ P : Nat → Prop, P = fun k => k = p ∨ k = w.heap.size := ⟨_, rfl⟩
    have n1 : ¬ PP g2 := by rw [hPP]; rintro (e | e) <;> omega
    have n2 : ¬ PP q := by rw [hPP]; rintro (e | e) <;> omega
    have hPr : PP w.heap.size := by rw [hPP]; exact Or.inr rfl
    clear hk hs hls hP hPs
    go_enter Tryd.func99, Tryd.ntmps99
    go_wp2
    refine wp_region_seq [(0, true), (1, true), (2, true), (3, true), (4, true), (5, true), (6, true), (7, true), (8, true), (9, true), (10, true), (11, true), (12, true), (13, true), (14, true), (15, true), (16, true), (17, true), (18, true), (19, true), (20, true), (21, true), (22, true), (23, true), (24, true)] (by kernel_rfl) (by kernel_rfl) (fun _ _ d _ _ h => by cases d <;> exact h) ?_
    simp only [List.map_cons, List.map_nil, nth]
    repeat (first | ((with_reducible refine wpSeq_look ?_); go_big_quiet_step (fail); (with_reducible refine wpQuiet_nil ?_)) | ((with_reducible refine wpSeq_effF ?_ ?_); (focus rfl); go_simp) | ((with_reducible refine wpSeq_eff ?_ ?_); (focus rfl); (try dsimp only); go_wp2_with (fail); refine mixQ_mk (by (try show Ex _ _); with_reducible repeat (first | exact ex_refl _ | assumption | refine ex_drewL ?_ | refine ex_appR ?_ _ | refine ex_wx ?_ _ | refine ex_drew ?_ | refine ex_alloc ?_ _)) ?_))
    refine wpSeq_nil ?_
    go_wp2
    refine wp_region_seq [(0, true), (1, true), (2, true), (3, true), (4, true), (5, true), (6, true), (7, true), (8, true), (9, true), (10, true), (11, true), (12, true), (13, true), (14, false), (15, true)] (by kernel_rfl) (by kernel_rfl) (fun _ _ d _ _ h => by cases d <;> exact h) ?_
    simp only [List.map_cons, List.map_nil, nth]
    repeat (first | ((with_reducible refine wpSeq_look ?_); go_big_quiet_step (fail); (with_reducible refine wpQuiet_nil ?_)) | ((with_reducible refine wpSeq_effF ?_ ?_); (focus rfl); go_simp) | ((with_reducible refine wpSeq_eff ?_ ?_); (focus rfl); (try dsimp only); go_wp2_with ((go_at_call 120; (with_reducible refine (HCl.out _).mono ?_); rintro e w2 ⟨v1, rfl, hv1, X1, rfl⟩; (try simp only [wx_wx, wx_drew] at hv1))); refine mixQ_mk (by (try show Ex _ _); with_reducible repeat (first | exact ex_refl _ | assumption | refine ex_drewL ?_ | refine ex_appR ?_ _ | refine ex_wx ?_ _ | refine ex_drew ?_ | refine ex_alloc ?_ _)) ?_))
    refine wpSeq_nil ?_
    go_wp2
    have SQ : Hid (∀ w5, FrP p (wx (w.alloc (.cells (rowB 32 fun _ => 0) 46)) X1) w5 → Frm PP (wx (w.alloc (.cells (rowB 32 fun _ => 0) 46)) X1) w5) := Lib.hid fun w5 F => F.mono fun b e => by rw [hPP]; exact Or.inl e
    clear hPP
    refine wp_region_forkH (fun w' => ∃ X, w' = kp (wx (w.alloc (.cells (rowB 32 fun _ => 0) 46)) X1) PP X) (.look 0 (.look 1 (.look 2 (.look 3 (.look 4 (.look 5 (.look 6 (.look 7 (.eff 8 (.eff 9 (.eff 10 .done))))))))))) (⟨_, kp_of (fun _ _ _ => rfl)⟩) (by kernel_rfl) (by kernel_rfl) (fun _ _ d _ _ h => by cases d <;> exact h) ?_
    simp only [Fk.ops, nth]
    repeat (first | ((with_reducible refine wpForkH_look ?_); go_big_quiet_step (fail); (try (with_reducible refine wpQuiet_nil ?_))) | (with_reducible refine wpForkH_eff ?_) | ((with_reducible refine effH_F ?_ ?_); (focus rfl); go_simp) | ((with_reducible refine effH_T ?_ ?_); (focus rfl); (try dsimp only); go_wp2_with (first | (go_at_call 120; (with_reducible refine (HC2.out _).mono ?_); rintro e w2 ⟨v2, rfl, hv2, X2, rfl⟩; (try simp only [wx_wx, wx_drew] at hv2)) | (go_at_call 100; (with_reducible refine (HPt.out _ _ _ (by (try show Ex _ _); with_reducible repeat (first | exact ex_refl _ | assumption | refine ex_drewL ?_ | refine ex_appR ?_ _ | refine ex_wx ?_ _ | refine ex_drew ?_ | refine ex_alloc ?_ _)) (OwnU.ex hv1 (by (try show Ex _ _); with_reducible repeat (first | exact ex_refl _ | assumption | refine ex_drewL ?_ | refine ex_appR ?_ _ | refine ex_wx ?_ _ | refine ex_drew ?_ | refine ex_alloc ?_ _))) (OwnU.ex hv2 (by (try show Ex _ _); with_reducible repeat (first | exact ex_refl _ | assumption | refine ex_drewL ?_ | refine ex_appR ?_ _ | refine ex_wx ?_ _ | refine ex_drew ?_ | refine ex_alloc ?_ _)))).mono ?_); rintro e w5 ⟨rfl, F5', K5⟩; have F5 : FrP p (wx (w.alloc (.cells (rowB 32 fun _ => 0) 46)) X1) w5 := (Frm.ex (by (try show Ex _ _); with_reducible repeat (first | exact ex_refl _ | assumption | refine ex_drewL ?_ | refine ex_appR ?_ _ | refine ex_wx ?_ _ | refine ex_drew ?_ | refine ex_alloc ?_ _))).trans F5'; obtain ⟨⟨n5, f5, z5⟩, HX⟩ := HE.out w5 _ ((Frm.ex (by (try show Ex _ _); with_reducible repeat (first | exact ex_refl _ | assumption | refine ex_drewL ?_ | refine ex_appR ?_ _ | refine ex_wx ?_ _ | refine ex_drew ?_ | refine ex_alloc ?_ _))).trans F5) K5; replace HX := Lib.hid HX; replace F5' := Lib.hid F5')); (first | done | refine mixQH_mk (⟨_, kpF (by first | exact (SQ.out _ F5).sets hPr _ _ | exact SQ.out _ F5 | exact Frm.ex (by (try show Ex _ _); with_reducible repeat (first | exact ex_refl _ | assumption | refine ex_drewL ?_ | refine ex_appR ?_ _ | refine ex_wx ?_ _ | refine ex_drew ?_ | refine ex_alloc ?_ _)))⟩) ?_)))
    all_goals (with_reducible refine wpForkH_nil ?_)
    go_wp2
    obtain ⟨x1, x2, x3, x4⟩ := HX.out z
    exact ret_row Tryd.results99 Tryd.underlying46 rfl info_id rfl x1 rfl ⟨rfl, x2, x3, x4⟩
end Go.Proofs.YtcdocklbpfdmeaaDoor
