import Derived.Test.YtdohohafdplkiaaMDkW

/- Writes of the queue that are done. -/
set_option linter.unusedSimpArgs false
set_option linter.unusedVariables false
set_option maxRecDepth 20000
namespace Go.Proofs.Ytdohohafdplkiaa
open Go.RowKit
theorem doQ_snoc (is : Nat → Bool) (p : Pt) : ∀ (l : List Pt) (has : List Bk) (k : Nat), doQ has k (l ++ [p]) is = if is (k + l.length) = true then (doQ has k l is).set p.1.toNat p.2 else doQ has k l is
  | [], has, k => by simp [doQ]
  | q :: r, has, k => by
    rw [List.cons_append]
    unfold doQ
    rw [doQ_snoc is p r _ (k + 1), show k + 1 + r.length = k + (q :: r).length by simp; omega]
theorem doQ_take (is : Nat → Bool) (has : List Bk) (l : List Pt) {k : Nat} {p : Pt} (h : l[k]? = some p) : doQ has 0 (l.take (k + 1)) is = if is k = true then (doQ has 0 (l.take k) is).set p.1.toNat p.2 else doQ has 0 (l.take k) is := by
  have hk := (List.getElem?_eq_some_iff.1 h).1
  have hp := (List.getElem?_eq_some_iff.1 h).2
  rw [List.take_succ_eq_append_getElem hk, hp, doQ_snoc, Nat.zero_add, List.length_take, Nat.min_eq_left (by omega)]
theorem KQ_row {W : World} {b : Nat} {p : Pt} (hB : W.heap[b]? = some (.cells (KQ p).toArray 87 (0, 0))) : W.cell? ⟨b, 0, none⟩ = some (I p.1) ∧ cellsN W b 1 64 = some (rowB 64 (bkF p.2)) := by
  have b1 := (block_cells (n := 65) hB (by simp [KQ_len])).1
  refine ⟨(block_cell (o := 0) (v := I p.1) hB rfl).1, ?_⟩
  rw [← KQ_blk]
  refine cellsN_some.2 ⟨by simp [KQ_len], fun j hj => ?_⟩
  have := (cellsN_some.1 b1).2 (1 + j) (by omega)
  rw [Nat.zero_add] at this
  rw [this, Array.getElem?_extract]
  simp only [List.size_toArray, KQ_len, Nat.min_self, if_pos (show j < 65 - 1 by omega)]
theorem DkM.setHas {w : World} {L : Loc} {d : Dk} {qv : Value} (h : DkM w L d qv) {q : Nat} (hq : q < d.has.length) (x : Bk) : DkM (w.setCells L.h (q * 64) (KK x)) L { d with has := d.has.set q x } qv := by
  have hl : (d.has.set q x).length = d.has.length := List.length_set
  have hk : ∀ b, b ≠ L.h → (w.setCells L.h (q * 64) (KK x)).heap[b]? = w.heap[b]? := fun b hb => setCells_heap _ _ _ _ _ hb
  obtain ⟨o1, o2, o3, o4, o5, o6, o7, o8, o9⟩ := h.ok
  refine ⟨?_, ?_, owns_same h.bq fun b hb => hk b ?_, h.qb, h.ph, h.pq, h.hq, ⟨by rw [hl]; exact o1, by rw [hl]; exact o2, o3, fun p hp => by rw [hl]; exact o4 p hp, o5, o6, o7, o8, o9⟩⟩
  · rw [hk _ h.ph, hl]; exact h.bp
  · have := (own_set KK_len (by omega) h.bh x hq).1
    rw [hl]; exact this
  · rintro rfl
    exact h.hq (h.qb.symm.trans hb)
set_option maxHeartbeats 2000000 in
theorem doesS_any {w : World} {L : Loc} {d : Dk} (h : DkAt w L d)  (is : Nat → Bool)
    (HI : ∀ W, Dv L w L W → ∀ k : Nat, k < d.qu.length → Calls Try.prog 50 #[I k] W (Post W (.bool (is k)))) :
    Calls Try.prog 42 #[PT L.p, .func (.func 50) #[] #[]] w fun e w' => e = .returned (.tuple #[]) ∧ ∃ L', DkAt w' L' { d with has := doQ d.has 0 d.qu is, qu := [] } ∧ Dv L w L' w' := by
  obtain ⟨qv, hM⟩ := h.out
  have hok := hM.ok
  obtain ⟨qa, qc, hqv, _, _, _⟩ : ∃ a c, qv = .slice a d.qu.length c ∧ d.qu.length ≤ c ∧ c ≤ maxLen ∧ (a = none → c = 0) := by
    rcases hM.bq.2 with ⟨rfl, h0⟩ | ⟨g, cap, cur, rfl, h1, h2, h3, h4, h5, h6⟩
    · exact ⟨none, 0, by rw [h0], by omega, by decide, fun _ => rfl⟩
    · exact ⟨_, cap, rfl, h3, h4, fun h => by cases h⟩
  subst hqv
  obtain ⟨⟨c0, c1, c2, c3, c4, c5⟩, hf, hz⟩ := hM.cells
  have HM := Lib.hid hM
  have HI := Lib.hid HI
  have hqn := hok.qn
  have hqr := Lib.hid hok.qr
  have hn2 := hok.n2
  clear h hM hf c0 c2 c3 c4 c5
  go_enter Try.func42, Try.ntmps42
  go_wp2
  clear c1 hz
  go_loopw [11] (fun i wr => ∃ k : Nat, k ≤ d.qu.length ∧ i = I k ∧ Hid (DkM wr L { d with has := doQ d.has 0 (d.qu.take k) is } (.slice qa d.qu.length qc)) ∧ Hid (Dv L w L wr)) (fun i _ => d.qu.length - (intOf i).toNat)
  case atStart => exact ⟨0, by omega, rfl, Lib.hid (by rw [List.take_zero]; exact HM.out), Lib.hid (Dv.refl _ _)⟩
  case round =>
    obtain ⟨k, hk, rfl, hW, hV⟩ := hrel
    by_cases hlt : k < d.qu.length
    · obtain ⟨x, hx⟩ : ∃ x, d.qu[k]? = some x := ⟨_, List.getElem?_eq_getElem hlt⟩
      have hst := Lib.hid (doQ_take is d.has d.qu hx)
      have hxr := hqr.out x (List.mem_of_getElem? hx)
      have hM := hW.out
      obtain ⟨g, cap, cur, hv, _⟩ := own_block hM.bq (by show 0 < d.qu.length; omega) (by omega)
      obtain ⟨rfl, rfl⟩ : qa = some ⟨g, 0, none⟩ ∧ qc = cap := by simpa using hv
      have hcx := (own_at KQ_len hM.bq hx).1
      have hlt2 : (k : Int) < d.qu.length := by omega
      have hall : ∀ y, y ∈ KQ x → y.oneCell' = true := fun u hu => KQ_one [x] u (by simpa using hu)
      have hgz : g < wr.heap.size := hM.lt (Or.inr (Or.inr (hM.qb.symm.trans rfl)))
      have Hx := Lib.hid hx
      have HV0 := hV.out
      have hlen : (doQ d.has 0 (d.qu.take k) is).length = d.has.length := doQ_len _ _ _ _
      clear hv hx hM hV
      generalize doQ d.has 0 (d.qu.take k) is = hs at *
      cases hik : is k with
      | true =>
        rw [if_pos hik] at hst
        have HIk := Lib.hid (fun W (kk : Ex wr W) => HI.out W (HV0.grow kk) k hlt)
        rw [hik] at HIk
        replace HV0 := Lib.hid HV0
        go_wp2_with (go_at_call 50; (with_reducible refine (HIk.out _ (by (try show Ex _ _); repeat (first | (with_reducible exact ex_refl _) | (with_reducible assumption) | (with_reducible refine ex_drewL ?_) | (with_reducible refine ex_appR ?_ _) | (with_reducible refine ex_wx ?_ _) | (with_reducible refine ex_drew ?_) | (with_reducible refine ex_alloc ?_ _)))).mono ?_); rintro e w2 ⟨rfl, X2, rfl⟩)
        obtain ⟨W3, hW3⟩ : ∃ W3, wx (wr.alloc (.cells (KQ x).toArray 87)) X2 = W3 := ⟨_, rfl⟩
        obtain ⟨b5, hb5⟩ : ∃ b5, b5 = wr.heap.size := ⟨_, rfl⟩
        have K3 : Ex wr W3 := by rw [← hW3]; exact ex_wx (ex_alloc (ex_refl _) _) _
        have B5 : W3.heap[b5]? = some (.cells (KQ x).toArray 87 (0, 0)) := by rw [← hW3, hb5]; exact ex_block ⟨X2, rfl⟩ (heap_alloc_new wr _)
        rw [hW3, ← hb5]
        clear hW3
        have hM := hW.out.ex K3
        have V3 := Lib.hid (HV0.out.grow K3)
        obtain ⟨⟨c0, c1, c2, c3, c4, c5⟩, hf, hz⟩ := hM.cells
        obtain ⟨b0, b1⟩ := KQ_row B5
        have hb5z := (Array.getElem?_eq_some_iff.1 B5).1
        have hbh : b5 ≠ L.h := by
          have := hW.out.lt (b := L.h) (Or.inr (Or.inl rfl))
          omega
        obtain ⟨x1, x2⟩ := x
        obtain ⟨q, rfl⟩ : ∃ q : Nat, x1 = (q : Int) := ⟨x1.toNat, by have := hxr.1; simp only at this; omega⟩
        simp only [hlen] at c0
        simp only at b0 b1 hxr
        have hq1 : q < hs.length := by rw [hlen]; omega
        have hq2 : (q : Int) < d.has.length := hxr.2
        obtain ⟨y, hy⟩ : ∃ y, hs[q]? = some y := ⟨_, List.getElem?_eq_getElem hq1⟩
        obtain ⟨h1, h2, _, _⟩ := own_at KK_len hM.bh hy
        obtain ⟨P, hP⟩ : ∃ P : Nat → Prop, P = fun k => k = L.h := ⟨_, rfl⟩
        have p1 : ¬ P L.p := by rw [hP]; exact hM.ph
        have p2 : ¬ P b5 := by rw [hP]; exact hbh
        have pp : P L.h := by rw [hP]
        have hOs := own_set KK_len (by omega) hM.bh x2 (i := q) hq1
        have HM3 := Lib.hid hM
        have HOs := Lib.hid hOs.1
        have F9 := Lib.hid (Frm.refl P W3)
        replace hP := Lib.hid hP
        clear hM hf c1 c2 c3 c4 c5 hOs hW HV0 HIk K3 hbh hb5
        go_wp2
        refine wp_region_forkH (fun w' => ∃ X, w' = kp W3 P X) (.look 0 (.look 1 (.look 2 (.look 3 (.look 4 (.look 5 (.look 6 (.look 7 (.look 8 (.eff 9 .done)))))))))) (⟨_, kp_of (fun _ _ _ => rfl)⟩) (by kernel_rfl) (by kernel_rfl) (fun _ _ d _ _ h => by cases d <;> exact h) ?_
        simp only [Fk.ops, nth]
        repeat (first | ((with_reducible refine wpForkH_look ?_); go_big_quiet_step (fail); (try (with_reducible refine wpQuiet_nil ?_))) | (with_reducible refine wpForkH_eff ?_) | ((with_reducible refine effH_F ?_ ?_); (focus rfl); go_simp) | ((with_reducible refine effH_T ?_ ?_); (focus rfl); (try dsimp only); go_wp2_with (fail); refine mixQH_mk (⟨_, kp_of (by first | (with_reducible exact ((F9.out.sets pp _ _).trans (Frm.ex (ex_drew (ex_refl _)))).same) | (with_reducible exact (F9.out.sets pp _ _).same))⟩) ?_))
        all_goals (with_reducible refine wpForkH_nil ?_)
        go_wp2
        have hMf := HM3.out.setHas (q := q) hq1 x2
        have hDf : Dv L w L (W3.setCells L.h (q * 64) (rowB 64 (bkF x2)).toList).drew := (V3.out.sets (Or.inr (Or.inl rfl)) _ _).grow (ex_drew (ex_refl _))
        simp only [Int.toNat_natCast] at hst
        exact ⟨⟨k + 1, by omega, by go_num, Lib.hid (by rw [hst.out]; exact DkM.ex hMf (ex_drew (ex_refl _))), Lib.hid hDf⟩, by simp [intOf]; omega⟩
      | false =>
        rw [if_neg (by simp [hik])] at hst
        have HIk := Lib.hid (fun W (kk : Ex wr W) => HI.out W (HV0.grow kk) k hlt)
        rw [hik] at HIk
        replace HV0 := Lib.hid HV0
        go_wp2_with (go_at_call 50; (with_reducible refine (HIk.out _ (by (try show Ex _ _); repeat (first | (with_reducible exact ex_refl _) | (with_reducible assumption) | (with_reducible refine ex_drewL ?_) | (with_reducible refine ex_appR ?_ _) | (with_reducible refine ex_wx ?_ _) | (with_reducible refine ex_drew ?_) | (with_reducible refine ex_alloc ?_ _)))).mono ?_); rintro e w2 ⟨rfl, X2, rfl⟩)
        exact ⟨⟨k + 1, by omega, by go_num, Lib.hid (by rw [hst.out]; exact hW.out.ex (by (try show Ex _ _); repeat (first | (with_reducible exact ex_refl _) | (with_reducible assumption) | (with_reducible refine ex_drewL ?_) | (with_reducible refine ex_appR ?_ _) | (with_reducible refine ex_wx ?_ _) | (with_reducible refine ex_drew ?_) | (with_reducible refine ex_alloc ?_ _)))), Lib.hid (HV0.out.grow (by (try show Ex _ _); repeat (first | (with_reducible exact ex_refl _) | (with_reducible assumption) | (with_reducible refine ex_drewL ?_) | (with_reducible refine ex_appR ?_ _) | (with_reducible refine ex_wx ?_ _) | (with_reducible refine ex_drew ?_) | (with_reducible refine ex_alloc ?_ _))))⟩, by simp [intOf]; omega⟩
    · obtain rfl : k = d.qu.length := by omega
      rw [List.take_length] at hW
      have hM := hW.out
      obtain ⟨⟨c0, c1, c2, c3, c4, c5⟩, hf, hz⟩ := hM.cells
      have f1 := hf 1
      clear hM hf c0 c2 c3 c4 c5 hlt
      go_wp2
      go_end0
      refine ⟨rfl, ⟨L.p, L.h, none⟩, ⟨.slice none 0 0, ?_⟩, ?_⟩
      · have hM := hW.out
        refine ⟨?_, ?_, owns_nil _ _ _ _, rfl, hM.ph, (fun e => by cases e), (fun e => by cases e), ?_⟩
        · rw [setCell_block _ hM.bp]; rfl
        · exact owns_same hM.bh fun k hk => by
            obtain rfl : L.h = k := Option.some.inj hk
            exact setCell_heap _ (Ne.symm hM.ph)
        · obtain ⟨o1, o2, o3, o4, o5, o6, o7, o8, o9⟩ := hM.ok
          exact ⟨o1, o2, by simp, by simp, o5, o6, o7, o8, o9⟩
      · have hD := hV.out.setP 1 (.slice none 0 0)
        exact ⟨hD.os, hD.tape, hD.output, hD.size, hD.same, rfl, rfl, fun g hg => by cases hg⟩
set_option maxHeartbeats 2000000 in
theorem doesC_any {w : World} {L : Loc} {d : Dk} (h : DkAt w L d) (b6 b5 : Nat) (is : Nat → Bool)
    (HI : ∀ W, Dv L w L W → ∀ k : Nat, k < d.qu.length → Calls Try.prog 43 #[I k, PT b6, PT b5] W (Post W (.bool (is k)))) :
    Calls Try.prog 42 #[PT L.p, .func (.func 43) #[] #[PT b6, PT b5]] w fun e w' => e = .returned (.tuple #[]) ∧ ∃ L', DkAt w' L' { d with has := doQ d.has 0 d.qu is, qu := [] } ∧ Dv L w L' w' := by
  obtain ⟨qv, hM⟩ := h.out
  have hok := hM.ok
  obtain ⟨qa, qc, hqv, _, _, _⟩ : ∃ a c, qv = .slice a d.qu.length c ∧ d.qu.length ≤ c ∧ c ≤ maxLen ∧ (a = none → c = 0) := by
    rcases hM.bq.2 with ⟨rfl, h0⟩ | ⟨g, cap, cur, rfl, h1, h2, h3, h4, h5, h6⟩
    · exact ⟨none, 0, by rw [h0], by omega, by decide, fun _ => rfl⟩
    · exact ⟨_, cap, rfl, h3, h4, fun h => by cases h⟩
  subst hqv
  obtain ⟨⟨c0, c1, c2, c3, c4, c5⟩, hf, hz⟩ := hM.cells
  have HM := Lib.hid hM
  have HI := Lib.hid HI
  have hqn := hok.qn
  have hqr := Lib.hid hok.qr
  have hn2 := hok.n2
  clear h hM hf c0 c2 c3 c4 c5
  go_enter Try.func42, Try.ntmps42
  go_wp2
  clear c1 hz
  go_loopw [11] (fun i wr => ∃ k : Nat, k ≤ d.qu.length ∧ i = I k ∧ Hid (DkM wr L { d with has := doQ d.has 0 (d.qu.take k) is } (.slice qa d.qu.length qc)) ∧ Hid (Dv L w L wr)) (fun i _ => d.qu.length - (intOf i).toNat)
  case atStart => exact ⟨0, by omega, rfl, Lib.hid (by rw [List.take_zero]; exact HM.out), Lib.hid (Dv.refl _ _)⟩
  case round =>
    obtain ⟨k, hk, rfl, hW, hV⟩ := hrel
    by_cases hlt : k < d.qu.length
    · obtain ⟨x, hx⟩ : ∃ x, d.qu[k]? = some x := ⟨_, List.getElem?_eq_getElem hlt⟩
      have hst := Lib.hid (doQ_take is d.has d.qu hx)
      have hxr := hqr.out x (List.mem_of_getElem? hx)
      have hM := hW.out
      obtain ⟨g, cap, cur, hv, _⟩ := own_block hM.bq (by show 0 < d.qu.length; omega) (by omega)
      obtain ⟨rfl, rfl⟩ : qa = some ⟨g, 0, none⟩ ∧ qc = cap := by simpa using hv
      have hcx := (own_at KQ_len hM.bq hx).1
      have hlt2 : (k : Int) < d.qu.length := by omega
      have hall : ∀ y, y ∈ KQ x → y.oneCell' = true := fun u hu => KQ_one [x] u (by simpa using hu)
      have hgz : g < wr.heap.size := hM.lt (Or.inr (Or.inr (hM.qb.symm.trans rfl)))
      have Hx := Lib.hid hx
      have HV0 := hV.out
      have hlen : (doQ d.has 0 (d.qu.take k) is).length = d.has.length := doQ_len _ _ _ _
      clear hv hx hM hV
      generalize doQ d.has 0 (d.qu.take k) is = hs at *
      cases hik : is k with
      | true =>
        rw [if_pos hik] at hst
        have HIk := Lib.hid (fun W (kk : Ex wr W) => HI.out W (HV0.grow kk) k hlt)
        rw [hik] at HIk
        replace HV0 := Lib.hid HV0
        go_wp2_with (go_at_call 43; (with_reducible refine (HIk.out _ (by (try show Ex _ _); repeat (first | (with_reducible exact ex_refl _) | (with_reducible assumption) | (with_reducible refine ex_drewL ?_) | (with_reducible refine ex_appR ?_ _) | (with_reducible refine ex_wx ?_ _) | (with_reducible refine ex_drew ?_) | (with_reducible refine ex_alloc ?_ _)))).mono ?_); rintro e w2 ⟨rfl, X2, rfl⟩)
        obtain ⟨W3, hW3⟩ : ∃ W3, wx (wr.alloc (.cells (KQ x).toArray 87)) X2 = W3 := ⟨_, rfl⟩
        obtain ⟨b5, hb5⟩ : ∃ b5, b5 = wr.heap.size := ⟨_, rfl⟩
        have K3 : Ex wr W3 := by rw [← hW3]; exact ex_wx (ex_alloc (ex_refl _) _) _
        have B5 : W3.heap[b5]? = some (.cells (KQ x).toArray 87 (0, 0)) := by rw [← hW3, hb5]; exact ex_block ⟨X2, rfl⟩ (heap_alloc_new wr _)
        rw [hW3, ← hb5]
        clear hW3
        have hM := hW.out.ex K3
        have V3 := Lib.hid (HV0.out.grow K3)
        obtain ⟨⟨c0, c1, c2, c3, c4, c5⟩, hf, hz⟩ := hM.cells
        obtain ⟨b0, b1⟩ := KQ_row B5
        have hb5z := (Array.getElem?_eq_some_iff.1 B5).1
        have hbh : b5 ≠ L.h := by
          have := hW.out.lt (b := L.h) (Or.inr (Or.inl rfl))
          omega
        obtain ⟨x1, x2⟩ := x
        obtain ⟨q, rfl⟩ : ∃ q : Nat, x1 = (q : Int) := ⟨x1.toNat, by have := hxr.1; simp only at this; omega⟩
        simp only [hlen] at c0
        simp only at b0 b1 hxr
        have hq1 : q < hs.length := by rw [hlen]; omega
        have hq2 : (q : Int) < d.has.length := hxr.2
        obtain ⟨y, hy⟩ : ∃ y, hs[q]? = some y := ⟨_, List.getElem?_eq_getElem hq1⟩
        obtain ⟨h1, h2, _, _⟩ := own_at KK_len hM.bh hy
        obtain ⟨P, hP⟩ : ∃ P : Nat → Prop, P = fun k => k = L.h := ⟨_, rfl⟩
        have p1 : ¬ P L.p := by rw [hP]; exact hM.ph
        have p2 : ¬ P b5 := by rw [hP]; exact hbh
        have pp : P L.h := by rw [hP]
        have hOs := own_set KK_len (by omega) hM.bh x2 (i := q) hq1
        have HM3 := Lib.hid hM
        have HOs := Lib.hid hOs.1
        have F9 := Lib.hid (Frm.refl P W3)
        replace hP := Lib.hid hP
        clear hM hf c1 c2 c3 c4 c5 hOs hW HV0 HIk K3 hbh hb5
        go_wp2
        refine wp_region_forkH (fun w' => ∃ X, w' = kp W3 P X) (.look 0 (.look 1 (.look 2 (.look 3 (.look 4 (.look 5 (.look 6 (.look 7 (.look 8 (.eff 9 .done)))))))))) (⟨_, kp_of (fun _ _ _ => rfl)⟩) (by kernel_rfl) (by kernel_rfl) (fun _ _ d _ _ h => by cases d <;> exact h) ?_
        simp only [Fk.ops, nth]
        repeat (first | ((with_reducible refine wpForkH_look ?_); go_big_quiet_step (fail); (try (with_reducible refine wpQuiet_nil ?_))) | (with_reducible refine wpForkH_eff ?_) | ((with_reducible refine effH_F ?_ ?_); (focus rfl); go_simp) | ((with_reducible refine effH_T ?_ ?_); (focus rfl); (try dsimp only); go_wp2_with (fail); refine mixQH_mk (⟨_, kp_of (by first | (with_reducible exact ((F9.out.sets pp _ _).trans (Frm.ex (ex_drew (ex_refl _)))).same) | (with_reducible exact (F9.out.sets pp _ _).same))⟩) ?_))
        all_goals (with_reducible refine wpForkH_nil ?_)
        go_wp2
        have hMf := HM3.out.setHas (q := q) hq1 x2
        have hDf : Dv L w L (W3.setCells L.h (q * 64) (rowB 64 (bkF x2)).toList).drew := (V3.out.sets (Or.inr (Or.inl rfl)) _ _).grow (ex_drew (ex_refl _))
        simp only [Int.toNat_natCast] at hst
        exact ⟨⟨k + 1, by omega, by go_num, Lib.hid (by rw [hst.out]; exact DkM.ex hMf (ex_drew (ex_refl _))), Lib.hid hDf⟩, by simp [intOf]; omega⟩
      | false =>
        rw [if_neg (by simp [hik])] at hst
        have HIk := Lib.hid (fun W (kk : Ex wr W) => HI.out W (HV0.grow kk) k hlt)
        rw [hik] at HIk
        replace HV0 := Lib.hid HV0
        go_wp2_with (go_at_call 43; (with_reducible refine (HIk.out _ (by (try show Ex _ _); repeat (first | (with_reducible exact ex_refl _) | (with_reducible assumption) | (with_reducible refine ex_drewL ?_) | (with_reducible refine ex_appR ?_ _) | (with_reducible refine ex_wx ?_ _) | (with_reducible refine ex_drew ?_) | (with_reducible refine ex_alloc ?_ _)))).mono ?_); rintro e w2 ⟨rfl, X2, rfl⟩)
        exact ⟨⟨k + 1, by omega, by go_num, Lib.hid (by rw [hst.out]; exact hW.out.ex (by (try show Ex _ _); repeat (first | (with_reducible exact ex_refl _) | (with_reducible assumption) | (with_reducible refine ex_drewL ?_) | (with_reducible refine ex_appR ?_ _) | (with_reducible refine ex_wx ?_ _) | (with_reducible refine ex_drew ?_) | (with_reducible refine ex_alloc ?_ _)))), Lib.hid (HV0.out.grow (by (try show Ex _ _); repeat (first | (with_reducible exact ex_refl _) | (with_reducible assumption) | (with_reducible refine ex_drewL ?_) | (with_reducible refine ex_appR ?_ _) | (with_reducible refine ex_wx ?_ _) | (with_reducible refine ex_drew ?_) | (with_reducible refine ex_alloc ?_ _))))⟩, by simp [intOf]; omega⟩
    · obtain rfl : k = d.qu.length := by omega
      rw [List.take_length] at hW
      have hM := hW.out
      obtain ⟨⟨c0, c1, c2, c3, c4, c5⟩, hf, hz⟩ := hM.cells
      have f1 := hf 1
      clear hM hf c0 c2 c3 c4 c5 hlt
      go_wp2
      go_end0
      refine ⟨rfl, ⟨L.p, L.h, none⟩, ⟨.slice none 0 0, ?_⟩, ?_⟩
      · have hM := hW.out
        refine ⟨?_, ?_, owns_nil _ _ _ _, rfl, hM.ph, (fun e => by cases e), (fun e => by cases e), ?_⟩
        · rw [setCell_block _ hM.bp]; rfl
        · exact owns_same hM.bh fun k hk => by
            obtain rfl : L.h = k := Option.some.inj hk
            exact setCell_heap _ (Ne.symm hM.ph)
        · obtain ⟨o1, o2, o3, o4, o5, o6, o7, o8, o9⟩ := hM.ok
          exact ⟨o1, o2, by simp, by simp, o5, o6, o7, o8, o9⟩
      · have hD := hV.out.setP 1 (.slice none 0 0)
        exact ⟨hD.os, hD.tape, hD.output, hD.size, hD.same, rfl, rfl, fun g hg => by cases hg⟩
end Go.Proofs.Ytdohohafdplkiaa
