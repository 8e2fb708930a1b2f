import Derived.Test.YtabjamkkhlbajaaDoorMDkM
import Derived.Test.YtabjamkkhlbajaaDoorMWords
import Derived.Test.YtabjamkkhlbajaaDoorMSeqH

/- What a Read does. -/
set_option linter.unusedSimpArgs false
set_option linter.unusedVariables false
set_option maxRecDepth 20000
namespace Go.Proofs.YtabjamkkhlbajaaDoor
open Go.RowKit
attribute [local go_sem] Oper.semAt_some
def ixD (X : World) : World := X
theorem keepsO_sets (b : Nat) : ∀ (vs : List Value) (o : Nat) (w : World), KeepsOthers w (w.setCells b o vs)
  | [], _, w => KeepsOthers.refl w
  | v :: r, o, w => by unfold World.setCells; exact (KeepsOthers.setCell _ _ _).trans (keepsO_sets b r _ _)
theorem keepsO_ex {w w' : World} (k : Ex w w') : KeepsOthers w w' := by
  have hb := ex_below k
  exact ⟨hb.size, fun i o hi _ => (hb.block i (Array.getElem?_eq_some_iff.1 hi).1).trans hi⟩
@[go_sem] theorem KQ_size (p : Pt) : (KQ p).toArray.size = 65 := by simp [KQ_len]
@[go_sem] theorem KQ_len' (p : Pt) : (KQ p).length = 65 := KQ_len p
@[go_sem high] theorem KQ_ones (p : Pt) : oneCells (KQ p).toArray = true := by
  unfold oneCells
  rw [Array.all_eq_true_iff_forall_mem]
  intro u hu
  exact KQ_one [p] u (by simpa using hu)
@[go_sem] theorem KQ_at0 (p : Pt) : (KQ p)[0]? = some (I p.1) := rfl
@[go_sem] theorem KQ_at0' (p : Pt) : (KQ p).toArray[0]? = some (I p.1) := rfl
@[go_sem] theorem KQ_blk (p : Pt) : (KQ p).toArray.extract 1 65 = rowB 64 (bkF p.2) := by
  apply arr_ext; intro j
  rw [Array.getElem?_extract, List.getElem?_toArray, rowB_get]
  by_cases hj : j < 64
  · rw [if_pos hj]
    simp only [List.size_toArray, KQ_len, Nat.min_self, if_pos (show j < 65 - 1 by omega)]
    rw [Nat.add_comm, show (KQ p)[j + 1]? = (KK p.2)[j]? from rfl]
    unfold KK
    rw [Array.getElem?_toList, rowB_get, if_pos hj]
  · rw [if_neg hj]
    simp [KQ_len]; omega
theorem lastF_spec (l : List Pt) (i : Int) : ∀ n, n ≤ l.length → (∀ x ∈ uptoL (lastF l) n, x.2.1 ≠ i) → lastD l i = lastD (l.take (l.length - n)) i := by
  intro n
  induction n with
  | zero => intro _ _; rw [Nat.sub_zero, List.take_length]
  | succ n ih =>
    intro hn h
    rw [uptoL_succ] at h
    rw [ih (by omega) fun x hx => h x (List.mem_append_left _ hx)]
    have h1 := h (lastF l n) (by simp)
    have hlt : l.length - 1 - n < l.length := by omega
    have hx : lastF l n = (l.length - 1 - n, l[l.length - 1 - n]) := by unfold lastF; rw [List.getD_eq_getElem?_getD, List.getElem?_eq_getElem hlt]; rfl
    rw [hx] at h1
    have ht : l.take (l.length - n) = l.take (l.length - (n + 1)) ++ [l[l.length - 1 - n]] := by
      have e : l.length - n = (l.length - 1 - n) + 1 := by omega
      have e2 : l.length - (n + 1) = l.length - 1 - n := by omega
      rw [e, e2, List.take_succ_eq_append_getElem hlt]
    unfold lastD
    rw [ht, List.reverse_append]
    simp only [List.reverse_singleton, List.singleton_append, List.find?_cons]
    rw [decide_eq_false h1]
theorem lastF_none {l : List Pt} {i : Int} (h : ∀ x ∈ uptoL (lastF l) l.length, x.2.1 ≠ i) : lastD l i = none := by
  rw [lastF_spec l i l.length (Nat.le_refl _) h, Nat.sub_self]; rfl
theorem lastF_hit {l : List Pt} {i : Int} {n : Nat} (hn : n < l.length) (h : ∀ x ∈ uptoL (lastF l) n, x.2.1 ≠ i) (hx : (lastF l n).2.1 = i) : lastD l i = some (lastF l n).2.2 := by
  rw [lastF_spec l i n (by omega) h]
  have hlt : l.length - 1 - n < l.length := by omega
  have hl : lastF l n = (l.length - 1 - n, l[l.length - 1 - n]) := by unfold lastF; rw [List.getD_eq_getElem?_getD, List.getElem?_eq_getElem hlt]; rfl
  rw [hl] at hx ⊢
  have e : l.length - n = (l.length - 1 - n) + 1 := by omega
  unfold lastD
  rw [e, List.take_succ_eq_append_getElem hlt, List.reverse_append]
  simp only [List.reverse_singleton, List.singleton_append, List.find?_cons]
  rw [decide_eq_true hx]; rfl
set_option maxRecDepth 100000 in
set_option maxHeartbeats 2000000 in
theorem readfn_any {W : World} {L : Loc} {d : Dk} (h : DkAt W L d) (i : Int) (hi : 0 ≤ i ∧ i < d.has.length) (bd bi bb Z : Nat) (f : Nat → UInt8) (hZ : ∀ b, L.own b → b < Z) (z1 : Z ≤ bd) (z2 : Z ≤ bi) (z3 : Z ≤ bb) (n1 : bd ≠ bb) (n2 : bi ≠ bb)
    (hd : W.heap[bd]? = some (.cells #[PT L.p] 38 (0, 0))) (hb : W.heap[bi]? = some (.cells #[I i] 3 (0, 0))) (hr : W.heap[bb]? = some (.cells (rowB 64 f) 75 (0, 0))) :
    Calls Tryd.prog 78 #[PT bd, PT bi, PT bb] W fun e W' => e = .returned (.tuple #[]) ∧ W'.heap[bb]? = some (.cells (rowB 64 (bkF (readsD d i))) 75 (0, 0)) ∧ Frm (fun b => b = bb) W W' := by
  obtain ⟨qv, hM⟩ := h.out
  obtain ⟨i1, i2⟩ := hi
  obtain ⟨q, rfl⟩ : ∃ q : Nat, i = (q : Int) := ⟨i.toNat, by omega⟩
  obtain ⟨⟨c0, c1, c2, c3, c4, c5⟩, hf, hz⟩ := hM.cells
  obtain ⟨x, hx⟩ : ∃ x, d.has[q]? = some x := ⟨_, List.getElem?_eq_getElem (by omega)⟩
  have hcx := (own_at KK_len hM.bh hx).1
  rw [KK_back] at hcx
  have hdc := (block_cell (o := 0) (v := PT L.p) hd rfl).1
  have hbc := (block_cell (o := 0) (v := I q) hb rfl).1
  obtain ⟨hrc, hrf⟩ := block_cells (n := 64) hr (by simp)
  have hbz := (Array.getElem?_eq_some_iff.1 hr).1
  have hdz := (Array.getElem?_eq_some_iff.1 hd).1
  have hiz := (Array.getElem?_eq_some_iff.1 hb).1
  have hpz := hZ L.p (Or.inl rfl)
  have hhz := hZ L.h (Or.inr (Or.inl rfl))
  have hhW := hM.lt (Or.inr (Or.inl rfl))
  have HM := Lib.hid hM
  have Hd := Lib.hid hd
  have Hb := Lib.hid hb
  have Hr := Lib.hid hr
  have Hx := Lib.hid hx
  have HZ := Lib.hid hZ
  clear h hM hd hb hr hf hx hZ c1 c2 c3 c4 c5
  refine calls_of_marks Tryd.func78 rfl ?_
  simp only [Tryd.ntmps78, List.size_toArray, List.length_cons, List.length_nil, Nat.reduceAdd, Nat.reduceSub, Array.replicate_succ, Array.replicate_zero, List.push_toArray, List.append_toArray, List.nil_append, List.cons_append]
  go_wp2
  refine wp_midF (fun a' w' => a' = { tmps := #[PT bd, PT bi, PT bb, undef, undef, PT L.p, PT L.p, PT L.p, .slice (some ⟨L.h, 0, none⟩) d.has.length d.has.length, I q, .pointer (some ⟨L.h, q * 64, none⟩), .agg (rowB 64 (bkF x)), undef, undef, undef, undef, undef, undef, undef, undef, undef, undef], defers := [] } ∧ w' = (W.setCells bb 0 (rowB 64 (bkF x)).toList).drew) ?_ ?_
  · refine wp_region_forkH (fun w' => ∃ X, w' = ixD X) (.fork 0 (.look 1 (.look 2 (.fork 3 (.eff 4 (.look 5 (.eff 6 (.eff 7 .done)))) 4 (.eff 3 (.look 5 (.eff 6 (.eff 7 .done))))))) 4 (.eff 0 (.look 1 (.look 2 (.eff 3 (.look 5 (.eff 6 (.eff 7 .done)))))))) (⟨_, rfl⟩) (by kernel_rfl) (by kernel_rfl) (fun _ _ d _ _ h => by cases d <;> exact h) ?_
    simp only [Fk.ops, nth]
    repeat (first | ((with_reducible refine wpForkH_look ?_); go_big_quiet_step (fail); (try (with_reducible refine wpQuiet_nil ?_))) | (with_reducible refine wpForkH_eff ?_) | ((with_reducible refine effH_F ?_ ?_); (focus rfl); go_simp) | ((with_reducible refine effH_T ?_ ?_); (focus rfl); (try dsimp only); go_wp2_with (fail); (first | done | refine mixQH_mk (⟨_, rfl⟩) ?_)))
    all_goals (try (with_reducible refine wpForkH_fork ?_ ?_))
    all_goals repeat (first | ((with_reducible refine wpForkH_look ?_); go_big_quiet_step (fail); (try (with_reducible refine wpQuiet_nil ?_))) | (with_reducible refine wpForkH_eff ?_) | ((with_reducible refine effH_F ?_ ?_); (focus rfl); go_simp) | ((with_reducible refine effH_T ?_ ?_); (focus rfl); (try dsimp only); go_wp2_with (fail); (first | done | refine mixQH_mk (⟨_, rfl⟩) ?_)))
    all_goals (try (with_reducible refine wpForkH_fork ?_ ?_))
    all_goals repeat (first | ((with_reducible refine wpForkH_look ?_); go_big_quiet_step (fail); (try (with_reducible refine wpQuiet_nil ?_))) | (with_reducible refine wpForkH_eff ?_) | ((with_reducible refine effH_F ?_ ?_); (focus rfl); go_simp) | ((with_reducible refine effH_T ?_ ?_); (focus rfl); (try dsimp only); go_wp2_with (fail); (first | done | refine mixQH_mk (⟨_, rfl⟩) ?_)))
    all_goals (with_reducible refine wpForkH_nil ?_)
    all_goals exact ⟨rfl, rfl⟩
  rintro a1 w1 ⟨rfl, hw1⟩
  have fW : Frm (fun b => b = bb) W w1 := by rw [hw1]; exact ((Frm.refl (fun b => b = bb) W).sets rfl _ _).trans (Frm.ex (ex_drew (ex_refl _)))
  have Hr1 : w1.heap[bb]? = some (.cells (rowB 64 (bkF x)) 75 (0, 0)) := by
    rw [hw1]
    have := setCells_block bb 75 (0, 0) (rowB 64 (bkF x)).toList 0 W _ Hr.out
    rw [show spliceA (rowB 64 f) 0 (rowB 64 (bkF x)).toList = rowB 64 (bkF x) by rw [spliceA_all _ _ (by simp)]] at this
    exact ex_block (ex_drew (ex_refl _)) this
  clear hw1
  have HM1 := HM.out.keep fun b hb => fW.same b (HM.out.lt hb) fun e => by have := HZ.out b hb; omega
  have Hd1 := (fW.same bd hdz n1).trans Hd.out
  have Hb1 := (fW.same bi hiz n2).trans Hb.out
  have hz1 := fW.size
  have hdc1 := (block_cell (o := 0) (v := PT L.p) Hd1 rfl).1
  replace HM1 := Lib.hid HM1
  replace Hb1 := Lib.hid Hb1
  replace Hr1 := Lib.hid Hr1
  replace fW := Lib.hid fW
  clear hcx hdc hbc hrc hrf c0 hz Hd1
  go_wp2_with (go_at_call 51; (with_reducible refine (last_any _ _).mono ?_); rintro e w2 ⟨rfl, rfl⟩)
  obtain ⟨bx, hbx⟩ : ∃ bx, bx = w1.heap.size := ⟨_, rfl⟩
  rw [← hbx]
  obtain ⟨w2, hw2⟩ : ∃ w2, w1.alloc (.cells #[PT L.p] 38) = w2 := ⟨_, rfl⟩
  have k12 : Ex w1 w2 := by rw [← hw2]; exact ex_alloc (ex_refl _) _
  have hs2 : w2.heap.size = w1.heap.size + 1 := by rw [← hw2]; simp [go_sem]
  have Hx2 : w2.heap[bx]? = some (.cells #[PT L.p] 38 (0, 0)) := by rw [← hw2, hbx]; exact heap_alloc_new w1 _
  rw [hw2]
  clear hw2
  have HM2 := HM1.out.ex k12
  have Hb2 := ex_block k12 Hb1.out
  have Hr2 := ex_block k12 Hr1.out
  have f12 := fW.out.trans (Frm.ex (F := fun b => b = bb) k12)
  have hbb2 : bb < w2.heap.size := by omega
  have hbi2 : bi < w2.heap.size := by omega
  have hbx2 : bx < w2.heap.size := by omega
  have hZ2 : Z ≤ w2.heap.size := by omega
  have hxb : bb ≠ bx := by omega
  replace f12 := Lib.hid f12
  replace Hb2 := Lib.hid Hb2
  clear HM1 Hb1 Hr1 fW HM Hd Hb Hr hdc1 hdz hiz hbz
  replace hbx := Lib.hid hbx
  replace hs2 := Lib.hid hs2
  refine (wpIn_wide (n := 3)).1 ?_
  refine wpIn_rangeFunc_ownH rfl (by omega) (gf := 72) (lb := #[PT bx]) rfl trivial (enters_of Tryd.func72 (by kernel_rfl) rfl)
    (last_stops 2 (by omega) bx Z L d qv w2 HM2 HZ.out Hx2) (fun h k => Frm.trans h k) (kpQ_b hZ2 hbx2) (Below.refl _ _) (fun _ => rfl)
    (fun pre W' => Frm (fun b => b = bb) w2 W' ∧ W'.heap[bb]? = some (.cells (rowB 64 (bkF x)) 75 (0, 0)) ∧ ∀ y ∈ pre, y.2.1 ≠ (q : Int))
    (fun c pre W' => Frm (fun b => b = bb) w2 W' ∧ c = .exit 0 ∧ ∃ ini y, pre = ini ++ [y] ∧ (∀ z ∈ ini, z.2.1 ≠ (q : Int)) ∧ y.2.1 = (q : Int) ∧ W'.heap[bb]? = some (.cells (rowB 64 (bkF y.2.2)) 75 (0, 0)))
    (OwnFrom.and (ownFrom_frm (Nat.le_refl _)) (OwnFrom.and (ownFrom_heap _ hbb2) (ownFrom_pure' _ _)))
    (fun c s A B row hs hg hr => by obtain ⟨h1, h2, ini, y, h3, h4, h5, h6⟩ := hs; exact ⟨h1.grown hg (fun r e => (hr r e).1) (Nat.le_refl _), h2, ini, y, h3, h4, h5, (grown_heap hg (fun r e => (hr r e).1) hbb2 (Array.getElem?_eq_some_iff.1 h6).1).trans h6⟩)
    ⟨Frm.refl _ _, Hr2, fun _ h => by cases h⟩
    (fun y a' W' => ∃ Bx, W'.heap[Bx]? = some (.cells (KQ y.2).toArray 113 (0, 0)) ∧ a' = { tmps := #[PT bd, PT bi, PT bb, undef, PT Bx, PT L.p, PT L.p, PT L.p, .slice (some ⟨L.h, 0, none⟩) d.has.length d.has.length, I q, .pointer (some ⟨L.h, q * 64, none⟩), .agg (rowB 64 (bkF x)), PT L.p, .func (.func 72) #[] #[PT bx], I (y.1 : Nat), .agg (KQ y.2).toArray, undef, undef, undef, undef, undef, undef], defers := [] })
    (fun y a' s A B row hs hg hr => by obtain ⟨Bx, h1, h2⟩ := hs; exact ⟨Bx, ownFrom_cells (β := Unit) (fun _ => (KQ y.2).toArray) _ _ s A B row h1 hg hr, h2⟩)
    ?assign ?body ?done ?stop
  case assign =>
    intro l pre y W' K hI hK
    have hall : ∀ x, x ∈ KQ y.2 → x.oneCell' = true := fun u hu => KQ_one [y.2] u (by simpa using hu)
    dsimp only [encQ]
    gi_wp2
    exact hK _ _ ((KeepsOthers.alloc _ _).from _) (Frm.ex (ex_alloc (ex_refl _) _)) ⟨hI.1.alloc _, ex_block (ex_alloc (ex_refl _) _) hI.2.1, hI.2.2⟩ ⟨_, heap_alloc_new _ _, rfl⟩
  case body =>
    rintro l pre y a' W' hl ⟨r, hr⟩ ⟨hF, hH, hne⟩ ⟨Bx, hB, rfl⟩ hlt
    have b0 := (block_cell (o := 0) (v := I y.2.1) hB rfl).1
    have b1 := (block_cells (n := 65) hB (by simp [KQ_len])).1
    have hbx1 : cellsN W' Bx 1 64 = some (rowB 64 (bkF y.2.2)) := by
      rw [← KQ_blk]
      refine cellsN_some.2 ⟨by simp [KQ_len], fun j hj => ?_⟩
      have := (cellsN_some.1 b1).2 (1 + j) (by omega)
      rw [Nat.zero_add] at this
      rw [this, Array.getElem?_extract]
      simp only [List.size_toArray, KQ_len, Nat.min_self, if_pos (show j < 65 - 1 by omega)]
    have hbi := (block_cell (o := 0) (v := I q) ((hF.same bi hbi2 n2).trans Hb2.out) rfl).1
    obtain ⟨hr1, hr2⟩ := block_cells (n := 64) hH (by simp)
    clear b1 hB
    by_cases hy : y.2.1 = (q : Int)
    · have hyb : (y.2.1 == (q : Int)) = true := beq_iff_eq.2 hy
      gi_wp2
      refine ⟨(keepsO_sets _ _ _ _).from _, hF.sets rfl _ _, rfl, pre, y, rfl, hne, hy, ?_⟩
      have := setCells_block bb 75 (0, 0) (rowB 64 (bkF y.2.2)).toList 0 W' _ hH
      rwa [show spliceA (rowB 64 (bkF x)) 0 (rowB 64 (bkF y.2.2)).toList = rowB 64 (bkF y.2.2) by rw [spliceA_all _ _ (by simp)]] at this
    · have hyb : (y.2.1 == (q : Int)) = false := beq_eq_false_iff_ne.2 hy
      gi_wp2
      exact ⟨KeepsFrom.refl _ _, Frm.refl _ _, hF, hH, fun z hz => (List.mem_append.1 hz).elim (hne z) (fun e => by simp at e; subst e; exact hy)⟩
  case done =>
    rintro D ys W' hD rfl ⟨hF, hH, hne⟩ hK
    go_wp2
    refine ⟨by simp, .inl ⟨_, _, rfl, run_takeDeferred hK, ?_⟩⟩
    have hDz : bb < D := by omega
    have hp : (W'.putObj D (.deferred none)).heap[bb]? = W'.heap[bb]? := (grownBy_putObj' W' D _).block bb (by have := hF.size; omega) (fun e => by cases e; omega)
    have hfr : Frm (fun b => b = bb) W (W'.putObj D (.deferred none)) := (f12.out.trans hF).putObj (by have := f12.out.size; omega) _
    refine ⟨_, results_none rfl _ _ _, rfl, ?_, hfr⟩
    rw [hp]
    have : readsD d q = x := by
      unfold readsD
      rw [lastF_none hne, Int.toNat_natCast, List.getD_eq_getElem?_getD, Hx.out]; rfl
    rw [this]; exact hH
  case stop =>
    rintro D c pre W' hD ⟨k, hk, rfl⟩ ⟨hF, rfl, ini, y, e1, e2, e3, e4⟩ hK
    refine wpIn_wide.2 ?_
    go_wp2
    refine ⟨by simp, .inl ⟨_, _, rfl, run_takeDeferred hK, ?_⟩⟩
    have hDz : bb < D := by omega
    have hp : (W'.putObj D (.deferred none)).heap[bb]? = W'.heap[bb]? := (grownBy_putObj' W' D _).block bb (by have := hF.size; omega) (fun e => by cases e; omega)
    have hfr : Frm (fun b => b = bb) W (W'.putObj D (.deferred none)) := (f12.out.trans hF).putObj (by have := f12.out.size; omega) _
    refine ⟨_, results_none rfl _ _ _, rfl, ?_, hfr⟩
    rw [hp]
    obtain ⟨j, rfl, rfl, rfl⟩ := uptoL_split e1
    have : readsD d q = (lastF d.qu j).2.2 := by
      unfold readsD
      rw [lastF_hit (by omega) e2 e3]; rfl
    rw [this]; exact e4
end Go.Proofs.YtabjamkkhlbajaaDoor

/- Read. -/
set_option linter.unusedSimpArgs false
set_option linter.unusedVariables false
set_option maxRecDepth 20000
namespace Go.Proofs.YtabjamkkhlbajaaDoor
open Go.RowKit
theorem Dv.frm {L L' : Loc} {w W W' : World} {F : Nat → Prop} (h : Dv L w L' W) (k : Frm F W W') (hF : ∀ b, F b → w.heap.size ≤ b) : Dv L w L' W' :=
  ⟨k.os.trans h.os, k.tape.trans h.tape, k.output.trans h.output, Nat.le_trans h.size k.size, fun b hb ho => (k.same b (Nat.lt_of_lt_of_le hb h.size) fun e => by have := hF b e; omega).trans (h.same b hb ho), h.pp, h.hh, h.qq⟩
theorem zeroB_row : rowB 64 (bkF zeroB) = rowB 64 fun _ => 0 := rowB_congr fun i hi => bkF_of _ i hi
theorem reads_req (d : Dk) (s : Int) (ch : Bool) (i : Int) : readsD (reqD d s ch).1 i = readsD d i := by
  unfold readsD; rw [(req_same d s ch).1, (req_same d s ch).2.1]
/-- What handed back a block and an error. -/
def PostRd (w : World) (L : Loc) (r : Dk × Bk × Int) (e : Ending) (w' : World) : Prop :=
  ∃ L', e = .returned (.tuple #[.agg (rowB 64 (bkF r.2.1)), I r.2.2]) ∧ DkAt w' L' r.1 ∧ Dv L w L' w'
set_option maxHeartbeats 1000000 in
theorem read_any {w : World} {L : Loc} {d : Dk} (h : DkAt w L d) (i : Int) (h1 : -9223372036854775808 ≤ i) (h2 : i < 9223372036854775808) (hops : d.ops < 1000000000) :
    Calls Tryd.prog 66 #[PT L.p, I i] w (PostRd w L (readD d i)) := by
  obtain ⟨w1, hw1⟩ : ∃ w1, ((w.alloc (.cells #[PT L.p] 38)).alloc (.cells #[I i] 3)).alloc (.cells (rowB 64 fun _ => 0) 75) = w1 := ⟨_, rfl⟩
  have k1 : Ex w w1 := by rw [← hw1]; exact ex_alloc (ex_alloc (ex_alloc (ex_refl _) _) _) _
  obtain ⟨Z, hZ⟩ : ∃ Z, Z = w.heap.size := ⟨_, rfl⟩
  have hs1 : w1.heap.size = Z + 3 := by rw [← hw1, hZ]; simp [go_sem]
  have r0 : w1.heap[Z]? = some (.cells #[PT L.p] 38 (0, 0)) := by rw [← hw1, hZ]; exact ex_block (ex_alloc (ex_alloc (ex_refl _) _) _) (heap_alloc_new w _)
  have r1 : w1.heap[Z + 1]? = some (.cells #[I i] 3 (0, 0)) := by
    rw [← hw1, hZ]
    have := ex_block (ex_alloc (ex_refl _) (.cells (rowB 64 fun _ => 0) 75)) (heap_alloc_new (w.alloc (.cells #[PT L.p] 38)) (.cells #[I i] 3))
    simpa only [World.size_alloc] using this
  have r2 : w1.heap[Z + 2]? = some (.cells (rowB 64 fun _ => 0) 75 (0, 0)) := by
    rw [← hw1, hZ]
    have := heap_alloc_new ((w.alloc (.cells #[PT L.p] 38)).alloc (.cells #[I i] 3)) (.cells (rowB 64 fun _ => 0) 75)
    simpa only [World.size_alloc] using this
  have hown : ∀ b, L.own b → b < Z := fun b hb => by rw [hZ]; exact h.lt hb
  have HQ : Calls Tryd.prog 60 #[PT L.p, I i, .bool false, .func (.func 78) #[] #[PT Z, PT (Z + 1), PT (Z + 2)]] w1 fun e w' =>
      e = .returned (I (readD d i).2.2) ∧ w'.heap[Z + 2]? = some (.cells (rowB 64 (bkF (readD d i).2.1)) 75 (0, 0)) ∧ DkAt w' L (readD d i).1 ∧ Dv L w L w' := by
    refine (requestR_any (h.ex k1) i h1 h2 false _ (fun W => W.heap[Z + 2]? = some (.cells (rowB 64 (bkF (readsD d i))) 75 (0, 0)) ∧ DkAt W L (reqD d i false).1 ∧ Dv L w L W) hops ?_ ?_).mono ?_
    · intro hr W hW hD
      have hin := req_in hr
      have hsame : ∀ b, b < Z + 3 → Z ≤ b → W.heap[b]? = w1.heap[b]? := fun b hb hz => hD.same b (by omega) fun e => by have := hown b e; omega
      have hin2 : 0 ≤ i ∧ i < (reqD d i false).1.has.length := by rw [(req_same d i false).1]; exact hin
      refine (readfn_any hW i hin2 Z (Z + 1) (Z + 2) Z _ hown (Nat.le_refl _) (by omega) (by omega) (by omega) (by omega) ((hsame Z (by omega) (by omega)).trans r0) ((hsame (Z + 1) (by omega) (by omega)).trans r1) ((hsame (Z + 2) (by omega) (by omega)).trans r2)).mono ?_
      rintro e W' ⟨rfl, hb, hf⟩
      rw [reads_req] at hb
      obtain ⟨qv, hM⟩ := hW.out
      exact ⟨rfl, hb, ⟨qv, hM.keep fun b hb => hf.same b (hM.lt hb) fun e => by have := hown b hb; omega⟩, ((Dv.ofEx k1).trans hD).frm hf fun b hb => by omega⟩
    · rintro W ⟨_, hW, _⟩
      obtain ⟨qv, hM⟩ := hW.out
      obtain ⟨⟨c0, c1, c2, c3, c4, c5⟩, hf, hz⟩ := hM.cells
      rw [(req_same d i false).2.2] at c5
      exact ⟨c5, hf 5, hz⟩
    · rintro e w' (⟨hr, rfl, hW, hD⟩ | ⟨hr, rfl, W, ⟨hb, hW, hD⟩, rfl⟩)
      · have hrd : readD d i = ((reqD d i false).1, zeroB, (reqD d i false).2) := by unfold readD; rw [if_neg hr]
        rw [hrd]
        refine ⟨rfl, ?_, hW, (Dv.ofEx k1).trans hD⟩
        rw [zeroB_row, hD.same (Z + 2) (by omega) fun e => by have := hown _ e; omega]
        exact r2
      · have hrd : readD d i = (incD (reqD d i false).1, readsD d i, 0) := by unfold readD; rw [if_pos hr]
        rw [hrd]
        obtain ⟨qv, hM⟩ := hW.out
        have hp := hown L.p (Or.inl rfl)
        refine ⟨rfl, (setCell_heap _ (by omega)).trans hb, ⟨qv, ?_⟩, hD.setP 5 _⟩
        have := hM.setOps (n := d.ops + 1) (by omega)
        unfold incD
        rw [(req_same d i false).2.2]
        exact this
  unfold PostRd
  generalize readD d i = r at *
  obtain ⟨d', b, er⟩ := r
  simp only at HQ
  have HQ2 : Hid (Calls Tryd.prog 60 #[PT L.p, I i, .bool false, .func (.func 78) #[] #[PT w.heap.size, PT (w.heap.size + 1), PT (w.heap.size + 2)]]
      (((w.alloc (.cells #[PT L.p] 38)).alloc (.cells #[I i] 3)).alloc (.cells (rowB 64 fun _ => 0) 75)) fun e w' =>
      e = .returned (I er) ∧ w'.heap[w.heap.size + 2]? = some (.cells (rowB 64 (bkF b)) 75 (0, 0)) ∧ DkAt w' L d' ∧ Dv L w L w') := Lib.hid (by rw [hw1, ← hZ]; exact HQ)
  have HO := Lib.hid (fun b (hb : L.own b) => h.lt hb)
  clear hw1 r0 r1 r2 hown k1 h HQ hs1 hZ
  go_enter Tryd.func66, Tryd.ntmps66
  go_wp2_with (go_at_call 60; (with_reducible refine HQ2.out.mono ?_); rintro e w2 ⟨rfl, hb, hW, hD⟩; obtain ⟨n2, f2⟩ := block_cells (n := 64) hb (by simp); replace hb := Lib.hid hb; replace hW := Lib.hid hW; replace hD := Lib.hid hD)
  have hbk : (w2.setCells (w.heap.size + 1 + 1) 0 (rowB 64 (bkF b)).toList).heap[w.heap.size + 1 + 1]? = some (.cells (rowB 64 (bkF b)) 75 (0, 0)) := by
    have := setCells_block (w.heap.size + 1 + 1) 75 (0, 0) (rowB 64 (bkF b)).toList 0 w2 _ hb.out
    rwa [show spliceA (rowB 64 (bkF b)) 0 (rowB 64 (bkF b)).toList = rowB 64 (bkF b) by rw [spliceA_all _ _ (by simp)]] at this
  refine ret_rowV Tryd.results66 Tryd.underlying75 rfl info_blk rfl (block_cells hbk (by simp)).1 rfl rfl ⟨L, rfl, ?_, ?_⟩
  · obtain ⟨qv, hM⟩ := hW.out.out
    exact ⟨qv, hM.keep fun k hk => setCells_heap _ _ _ _ _ (by have := HO.out k hk; omega)⟩
  · exact hD.out.frm (((Frm.refl (fun k => k = w.heap.size + 1 + 1) w2)).sets rfl _ _) (fun k hk => by omega)
end Go.Proofs.YtabjamkkhlbajaaDoor
