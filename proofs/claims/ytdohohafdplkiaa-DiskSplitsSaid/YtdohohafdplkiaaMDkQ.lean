import Derived.Test.YtdohohafdplkiaaMDkY
import Derived.Maps.AppendAt

/- Pending. -/
set_option linter.unusedSimpArgs false
set_option linter.unusedVariables false
set_option maxRecDepth 20000
namespace Go.Proofs.Ytdohohafdplkiaa
open Go.RowKit
attribute [local go_sem] Oper.semAt_some
theorem last_rev (l : List Pt) : ((uptoL (lastF l) l.length).map (·.2.1)).reverse = l.map (·.1) := by
  apply List.ext_getElem?
  intro i
  by_cases hi : i < l.length
  · rw [List.getElem?_reverse (by simp [uptoL, hi])]
    have hl : ((uptoL (lastF l) l.length).map (·.2.1)).length = l.length := by simp [uptoL]
    rw [hl]
    unfold uptoL
    rw [List.getElem?_map, List.getElem?_map, List.getElem?_range (by omega), List.getElem?_map, List.getElem?_eq_getElem hi]
    simp only [Option.map_some, Option.some.injEq]
    unfold lastF
    simp only
    rw [show l.length - 1 - (l.length - 1 - i) = i by omega, List.getD_eq_getElem?_getD, List.getElem?_eq_getElem hi]; rfl
  · rw [List.getElem?_eq_none (by simp [uptoL]; omega), List.getElem?_eq_none (by simp; omega)]
def flatQ (pre : List (Nat × Pt)) : List Value := (pre.map (·.2.1)).flatMap KZ
theorem flatQ_snoc (pre : List (Nat × Pt)) (y : Nat × Pt) : flatQ (pre ++ [y]) = flatQ pre ++ [I y.2.1] := by simp [flatQ, KZ]
theorem owns_lower {w : World} {Z Z' : Nat} {t : TypeId} {s : Nat} {v : Value} {n : Nat} {xs : List Value} (h : w.ownsRow Z t s v n xs) (hz : Z' ≤ Z) : w.ownsRow Z' t s v n xs := by
  refine ⟨h.1, ?_⟩
  rcases h.2 with h0 | ⟨g, cap, cur, h1, h2, h3⟩
  · exact Or.inl h0
  · exact Or.inr ⟨g, cap, cur, h1, Nat.le_trans hz h2, h3⟩
theorem owns_cells {w : World} {Z : Nat} {t : TypeId} {s : Nat} {v : Value} {n : Nat} {xs : List Value} (h : w.ownsRow Z t s v n xs) {j : Nat} {o : Obj} (hj : v.ownBlock = some j) (ho : w.heap[j]? = some o) : o.isCells = true := by
  rcases h.2 with ⟨rfl, _⟩ | ⟨g, cap, cur, rfl, _, hgb, _⟩
  · cases hj
  · obtain rfl : g = j := Option.some.inj hj
    rw [hgb] at ho
    obtain rfl := Option.some.inj ho
    rfl
def PostZ (w : World) (l : List Int) (e : Ending) (w' : World) : Prop := ∃ v, e = .returned v ∧ OwnZ w' w.heap.size v l ∧ Ex w w'
set_option maxRecDepth 100000 in
set_option maxHeartbeats 2000000 in
theorem pend_any {w : World} {L : Loc} {d : Dk} (h : DkAt w L d) : Calls Try.prog 23 #[PT L.p] w (PostZ w (d.qu.map (·.1))) := by
  obtain ⟨qv, hM⟩ := h.out
  obtain ⟨i0, hi, hz0, hz1, hz2⟩ := info_parts appInt.hi
  have hq1 := hM.ok.qn
  obtain ⟨Z, hZ⟩ : ∃ Z, Z = w.heap.size := ⟨_, rfl⟩
  have HZ := Lib.hid (fun b (hb : L.own b) => show b < Z by rw [hZ]; exact h.lt hb)
  have HM := Lib.hid hM
  replace hZ := Lib.hid hZ
  clear h hM
  refine calls_of_marks Try.func23 rfl ?_
  simp only [Try.ntmps23, List.size_toArray, List.length_cons, List.length_nil, Nat.reduceAdd, Nat.reduceSub, Array.replicate_succ, Array.replicate_zero, List.push_toArray, List.append_toArray, List.nil_append, List.cons_append]
  go_wp2_with (go_at_call 41; (with_reducible refine (last_any _ _).mono ?_); rintro e w3 ⟨rfl, rfl⟩)
  obtain ⟨b0, hb0⟩ : ∃ b0, b0 = w.heap.size := ⟨_, rfl⟩
  obtain ⟨bx, hbx⟩ : ∃ bx, bx = w.heap.size + 1 := ⟨_, rfl⟩
  (try simp only [World.size_alloc])
  rw [← hbx, ← hb0]
  obtain ⟨w3, hw3⟩ : ∃ w3, (w.alloc (.cells #[.slice none 0 0] 54)).alloc (.cells #[PT L.p] 24) = w3 := ⟨_, rfl⟩
  have k3 : Ex w w3 := by rw [← hw3]; exact ex_alloc (ex_alloc (ex_refl _) _) _
  have hs3 : w3.heap.size = w.heap.size + 2 := by rw [← hw3]; simp [go_sem]
  have Hx3 : w3.heap[bx]? = some (.cells #[PT L.p] 24 (0, 0)) := by
    rw [← hw3, hbx]
    have := heap_alloc_new (w.alloc (.cells #[.slice none 0 0] 54)) (.cells #[PT L.p] 24)
    simpa only [World.size_alloc] using this
  have H03 : Boxed w3 b0 54 (.slice none 0 0) := by
    show w3.heap[b0]? = _
    rw [← hw3, hb0]
    exact ex_block (ex_alloc (ex_refl _) _) (heap_alloc_new w _)
  rw [hw3]
  clear hw3
  have y1 : b0 < w3.heap.size := by omega
  have y2 : bx < w3.heap.size := by omega
  have y3 : Z ≤ w3.heap.size := by rw [hZ.out]; omega
  have y4 : Z ≤ b0 ∧ b0 ≠ bx := by rw [hZ.out]; omega
  have e3 : Hid (w.heap.size = b0 ∧ Z = b0 ∧ bx = b0 + 1 ∧ w3.heap.size = b0 + 2) := Lib.hid (by rw [hZ.out]; omega)
  have HM2 := Lib.hid (HM.out.ex k3)
  have K3 := Lib.hid k3
  clear hb0 hbx hs3 k3
  refine (wpIn_wide (n := 3)).1 ?_
  refine wpIn_rangeFunc_ownH rfl (by omega) (gf := 57) (lb := #[PT bx]) rfl trivial (enters_of Try.func57 (by kernel_rfl) rfl)
    (last_stops 2 (by omega) bx Z L d qv w3 HM2.out HZ.out Hx3) (fun h k => Frm.trans h k) (kpQ_b y3 y2) (Below.refl _ _) (fun _ => rfl)
    (fun pre W' => (∃ v, Boxed W' b0 54 v ∧ W'.ownsRow w3.heap.size 3 1 v pre.length (flatQ pre) ∧ True) ∧ Frm (fun b => b = b0) w3 W')
    (fun _ _ _ => False)
    (OwnFrom.and (Own.from (holdsRow_own w3.heap.size b0 54 3 1 (fun pre => pre.length) flatQ (fun _ _ => True)) _) (ownFrom_frm (Nat.le_refl _)))
    (fun _ _ _ _ _ hs _ _ => hs)
    ⟨⟨_, H03, World.ownsRow_nil _ _ _ _, trivial⟩, Frm.refl _ _⟩
    (fun y a' W' => ∃ Bx, W'.heap[Bx]? = some (.cells (KQ y.2).toArray 87 (0, 0)) ∧ a' = { tmps := #[PT L.p, undef, .slice none 0 0, PT b0, undef, PT Bx, PT L.p, .bool false, PT L.p, .func (.func 57) #[] #[PT bx], I (y.1 : Nat), .agg (KQ y.2).toArray, undef, undef, undef, undef, undef, undef, undef, undef], defers := [] })
    (fun y a' s A B row hs hg hr => by obtain ⟨Bx, h1, h2⟩ := hs; exact ⟨Bx, ownFrom_cells (β := Unit) (fun _ => (KQ y.2).toArray) _ _ s A B row h1 hg hr, h2⟩)
    ?assign ?body ?done ?stop
  case assign =>
    rintro l pre y W' K ⟨⟨v, hv, hr, _⟩, hF⟩ hK
    have hall : ∀ x, x ∈ KQ y.2 → x.oneCell' = true := fun u hu => KQ_one [y.2] u (by simpa using hu)
    dsimp only [encQ]
    gi_wp2
    exact hK _ _ ((KeepsOthers.alloc _ _).from _) (Frm.ex (ex_alloc (ex_refl _) _)) ⟨⟨v, hv.alloc _, hr.alloc _, trivial⟩, hF.alloc _⟩ ⟨_, heap_alloc_new _ _, rfl⟩
  case body =>
    rintro l pre y a' W' hl ⟨r, hr⟩ ⟨⟨v, hv, hrow, _⟩, hF⟩ ⟨Bx, hB, rfl⟩ hlt
    obtain ⟨c0, _⟩ := KQ_row hB
    have hvc := hv.cell
    have hvz := hv.lt
    have hBz := (Array.getElem?_eq_some_iff.1 hB).1
    have hpl : pre.length < 1000000 := by omega
    have hFs := hF.size
    clear hB
    gi_wp2_with (gi_at_builtin; refine wpListIn_append_own _ rfl _ _ 54 rfl w3.heap.size 3 i0 (.int .i64 0) 1 8 Try.underlying54 hi hz0 hz1 hz2 rfl (by decide) _ _ _ rfl (hrow.alloc _) ⟨W'.heap.size, 0, none⟩ 1 1 [.int .i64 y.2.1] rfl rfl (cell_one_new _ _ _) (by simp [Value.oneCell']) (by unfold maxLen; omega) (by omega) (by simp; omega) ?_; intro v' w1 hown' hgrow _; obtain ⟨g', cap', rfl⟩ := ownsRow_succ hown'; have hne : v.ownBlock ≠ some b0 := (fun e => by have := (World.ownsRow.lt hrow b0 e).1; omega); have hv1 : Boxed w1 b0 54 v := (hv.alloc _).kept hgrow (fun e => hne e.symm); have hc1 := hv1.cell; have hf1 := hv1.frozen; have z1 := hv1.lt)
    have ho : ∀ b, v.ownBlock = some b → w3.heap.size ≤ b := fun b e => (World.ownsRow.lt hrow b e).1
    have F1 : Frm (fun b => v.ownBlock = some b) W' w1 := (Frm.ex (ex_alloc (ex_refl _) (.cells #[I y.2.1] 3))).trans ⟨hgrow.os, hgrow.tape, hgrow.output, hgrow.size, fun b hb hn => hgrow.block b hb (fun e => hn e.symm)⟩
    have F2 : Frm (fun b => b = b0) w3 w1 := ⟨F1.os.trans hF.os, F1.tape.trans hF.tape, F1.output.trans hF.output, Nat.le_trans hF.size F1.size, fun b hb hn => (F1.same b (by omega) fun e => by have := ho b e; omega).trans (hF.same b hb hn)⟩
    have hg' : w3.heap.size ≤ g' := (World.ownsRow.lt hown' g' rfl).1
    refine ⟨(((KeepsOthers.alloc W' (.cells #[I y.2.1] 3)).trans (KeepsOthers.of_grownBy hgrow fun j o ej hj => owns_cells (hrow.alloc _) ej hj)).trans (KeepsOthers.setCell _ _ _)).from _, (F1.mono fun b e => ⟨by have := ho b e; omega, by have := ho b e; omega⟩).set ⟨y4.1, y4.2⟩ 0 _, ⟨_, hv1.set _, ?_, trivial⟩, F2.set rfl 0 _⟩
    rw [flatQ_snoc, List.length_append, List.length_singleton]
    exact owns_same hown' fun k hk => by
      obtain rfl : g' = k := Option.some.inj hk
      exact setCell_heap _ (by omega)
  case done =>
    rintro D ys W' hD rfl ⟨⟨v, hv, hrow, _⟩, hF⟩ hK
    have hc := hv.cell
    have hvz := hv.lt
    have hFs := hF.size
    have ho : ∀ b, v.ownBlock = some b → w3.heap.size ≤ b := fun b e => (World.ownsRow.lt hrow b e).1
    have hl9 : ((uptoL (lastF d.qu) d.qu.length).map (·.2.1)).length = (uptoL (lastF d.qu) d.qu.length).length := by simp
    have hO : OwnZ W' w3.heap.size v ((uptoL (lastF d.qu) d.qu.length).map (·.2.1)) := by
      unfold OwnZ
      rw [hl9]; exact hrow
    have HR := Lib.hid (fun V (k : Ex W' V) => revz_any _ v V (owns_ex hO k) (by rw [hl9, uptoL_len]; omega))
    have hDv : v.ownBlock ≠ some D := fun e => by have := owns_cells hrow e hK; cases this
    have hbv : v.ownBlock ≠ some b0 := fun e => by have := ho b0 e; omega
    have HV := Lib.hid hv
    have HF := Lib.hid hF
    have HK := Lib.hid hK
    have Hho := Lib.hid ho
    have hDz := (Array.getElem?_eq_some_iff.1 hK).1
    rw [last_rev] at HR
    have hv1 : v.oneCell' = true := by obtain ⟨a, c, rfl, _⟩ := own_form hrow; rfl
    obtain ⟨va, vc, hvf, _⟩ := own_form hrow
    clear hv hrow hF hK hO ho hl9
    subst hvf
    go_wp2_with (go_at_call 47; (with_reducible refine (HR.out _ (by (try show Ex _ _); repeat (first | (with_reducible exact ex_refl _) | (with_reducible assumption) | (with_reducible refine ex_drewL ?_) | (with_reducible refine ex_appR ?_ _) | (with_reducible refine ex_wx ?_ _) | (with_reducible refine ex_drew ?_) | (with_reducible refine ex_alloc ?_ _)))).mono ?_); rintro e w9 ⟨rfl, hO9, _, F9⟩; have c9 := (block_cell (o := 0) ((F9.same b0 hvz hbv).trans HV.out) rfl).1; have z9 := Nat.lt_of_lt_of_le hvz F9.size; have hK9 := (F9.same D hDz hDv).trans HK.out; replace hO9 := Lib.hid hO9; replace F9 := Lib.hid F9)
    refine ⟨by simp, .inl ⟨_, _, rfl, run_takeDeferred hK9, ?_⟩⟩
    have hg := grownBy_putObj' w9 D (.deferred none)
    refine ⟨_, results_tmp rfl _ _ _, _, rfl, owns_lower (Z := w3.heap.size) ?_ (by have := e3.out; omega), ?_⟩
    · exact ownsRow_putObj hO9.out _ hK9 rfl
    · have G1 : Frm (fun b => w.heap.size ≤ b) w W' := (Frm.ex K3.out).trans (HF.out.mono fun b e => by have := e3.out; omega)
      have G2 : Frm (fun b => w.heap.size ≤ b) w w9 := G1.trans (F9.out.mono fun b e => by have := Hho.out b e; have := e3.out; omega)
      have G3 := G2.putObj (D := D) (by have := e3.out; omega) (.deferred none)
      exact ex_of_below (G3.below (Nat.le_refl _) fun b hb => hb)
  case stop =>
    rintro D c pre W' _ _ h _
    exact h.elim
end Go.Proofs.Ytdohohafdplkiaa
