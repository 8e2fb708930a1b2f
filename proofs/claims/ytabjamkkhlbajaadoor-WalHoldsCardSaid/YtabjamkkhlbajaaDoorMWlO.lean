import Derived.Test.YtabjamkkhlbajaaDoorMWlE
import Derived.Test.YtabjamkkhlbajaaDoorMDraw
import Derived.ArgAppend

/- Readers of bytes: what is read where enough is left. -/
set_option linter.unusedSimpArgs false
set_option linter.unusedVariables false
set_option linter.unnecessarySimpa false
set_option maxRecDepth 20000
namespace Go.Proofs.YtabjamkkhlbajaaDoor
open Go.RowKit
theorem bv64w (n : Nat) : BitVec.ofInt 64 (n : Int) = BitVec.ofNat 64 n := by
  apply BitVec.eq_of_toNat_eq
  rw [BitVec.toNat_ofInt, BitVec.toNat_ofNat]
  omega
theorem wrap_u64w (n : Nat) (h : n < 18446744073709551616) : IntKind.u64.wrap (n : Int) = (n : Int) := by rw [IntKind.wrap_u64]; omega
theorem or256 (x b : Nat) (hb : b < 256) (hx : 256 * x + b < 18446744073709551616) : bits BinOp.or IntKind.u64 ((x : Int) * 256) (b : Int) = ((256 * x + b : Nat) : Int) := by
  simp only [bits]
  rw [show IntKind.u64.bits = 64 from rfl, show (x : Int) * 256 = ((x * 256 : Nat) : Int) by simp, bv64w, bv64w, wrap_u64w _ (BitVec.isLt _)]
  congr 1
  rw [BitVec.toNat_or, BitVec.toNat_ofNat, BitVec.toNat_ofNat, Nat.mod_eq_of_lt (by omega), Nat.mod_eq_of_lt (by omega)]
  have := Nat.shiftLeft_add_eq_or_of_lt (show b < 2 ^ 8 by omega) x
  rw [Nat.shiftLeft_eq] at this
  rw [show (2 : Nat) ^ 8 = 256 from rfl] at this
  omega
/-- A reader of the call's own, so far without an error. -/
structure RdW (A w : World) (q : Nat) (v : Value) (l : By) (k : Nat) : Prop where
  ex : Ex A w
  hq : A.heap.size ≤ q
  sl : SlT A v l
  ll : l.length ≤ 1000
  le : k ≤ l.length
  bq : w.heap[q]? = some (.cells #[v, I k, I 0] 125 (0, 0))
theorem RdW.grow {A w w' : World} {q : Nat} {v : Value} {l : By} {k : Nat} (h : RdW A w q v l k) (x : Ex w w') : RdW A w' q v l k := { h with ex := ex_trans h.ex x, bq := ex_block x h.bq }
theorem RdW.set {A w : World} {q : Nat} {v : Value} {l : By} {k n : Nat} (h : RdW A w q v l k) (hn : n ≤ l.length) : RdW A (w.setCell ⟨q, 1, none⟩ (I n)) q v l n :=
  { h with ex := ex_set h.ex h.hq _, le := hn, bq := setCell_block _ h.bq }
theorem RdW.cells {A w : World} {q : Nat} {v : Value} {l : By} {k : Nat} (h : RdW A w q v l k) : w.cell? ⟨q, 0, none⟩ = some v ∧ w.cell? ⟨q, 1, none⟩ = some (I k) ∧ w.cell? ⟨q, 2, none⟩ = some (I 0) ∧ w.frozen? ⟨q, 1, none⟩ = false ∧ q < w.heap.size :=
  ⟨(block_cell h.bq rfl).1, (block_cell h.bq rfl).1, (block_cell h.bq rfl).1, (block_cell (v := I k) h.bq rfl).2, (Array.getElem?_eq_some_iff.1 h.bq).1⟩
theorem read0_any (a : Option Addr) (n c : Nat) (w : World) : Calls Tryd.prog 67 #[.slice a n c] w (fun e w' => e = .returned (PT w.heap.size) ∧ w' = w.alloc (.cells #[.slice a n c, I 0, I 0] 125)) := by
  go_enter Tryd.func67, Tryd.ntmps67
  go_wp2
  go_ret
  exact ⟨rfl, rfl⟩
theorem RdW.new {A w w' : World} {v : Value} {l : By} {q : Nat} (k : Ex A w) (hs : SlT A v l) (hl : l.length ≤ 1000) (hq : q = w.heap.size) (x : Ex (w.alloc (.cells #[v, I 0, I 0] 125)) w') : RdW A w' q v l 0 := by
  subst hq
  exact ⟨ex_trans (ex_alloc k _) x, ex_size k, hs, hl, by omega, ex_block x (heap_alloc_new _ _)⟩
theorem left0_any {A w : World} {q : Nat} {v : Value} {l : By} {k : Nat} (h : RdW A w q v l k) : Calls Tryd.prog 84 #[PT q] w (Post w (I ((l.length : Int) - k))) := by
  obtain ⟨c0, c1, c2, _, hz⟩ := h.cells
  obtain ⟨a, c, rfl, h1, h2, h3, _⟩ := h.sl.out
  have hl := h.ll
  have hk := h.le
  unfold maxLen at h2
  clear h
  go_enter Tryd.func84, Tryd.ntmps84
  go_wp2
  refine wp_region_seqA (w) [(0, true), (1, true), (2, true), (3, true), (4, true), (5, true), (6, true), (7, true), (8, true), (9, true), (10, true), (11, true), (12, true)] (by (try show Ex _ _); with_reducible repeat (first | exact ex_refl _ | assumption | refine ex_drewL ?_ | refine ex_appR ?_ _ | refine ex_wx ?_ _ | refine ex_drew ?_ | refine ex_alloc ?_ _)) (by kernel_rfl) (by kernel_rfl) (fun _ _ d _ _ h => by cases d <;> exact h) ?_
  simp only [List.map_cons, List.map_nil, nth]
  repeat (first | ((with_reducible refine wpSeq_look ?_); go_big_quiet_step (fail); (with_reducible refine wpQuiet_nil ?_)) | ((with_reducible refine wpSeq_effF ?_ ?_); (focus rfl); go_simp) | ((with_reducible refine wpSeq_eff ?_ ?_); (focus rfl); (try dsimp only); go_wp2_with (fail); refine mixQ_mk (by (try show Ex _ _); with_reducible repeat (first | exact ex_refl _ | assumption | refine ex_drewL ?_ | refine ex_appR ?_ _ | refine ex_wx ?_ _ | refine ex_drew ?_ | refine ex_alloc ?_ _)) ?_))
  refine wpSeq_nil ?_
  go_wp2
  go_ret
  exact post_mk' rfl (by (try show Ex _ _); with_reducible repeat (first | exact ex_refl _ | assumption | refine ex_drewL ?_ | refine ex_appR ?_ _ | refine ex_wx ?_ _ | refine ex_drew ?_ | refine ex_alloc ?_ _))
theorem next0_any {A w : World} {q : Nat} {v : Value} {l : By} {k : Nat} (h : RdW A w q v l k) (n : Nat) (hn : 1 ≤ n) (hk : k + n ≤ l.length) :
    Calls Tryd.prog 80 #[PT q, I n] w fun x w' => ∃ g off c, v = .slice (some ⟨g, off, none⟩) l.length c ∧ x = .returned (.slice (some ⟨g, off + k, none⟩) n (c - k)) ∧ n ≤ c - k ∧ c ≤ maxLen ∧ RdW A w' q v l (k + n) := by
  obtain ⟨c0, c1, c2, f1, hz⟩ := h.cells
  obtain ⟨a, c, rfl, h1, h2, h3, h4⟩ := h.sl.out
  obtain ⟨g, off, rfl, hg, _⟩ := SlB.pos h4 (by omega)
  have hl := h.ll
  have H := Lib.hid h
  have HL := Lib.hid fun w' (x : Ex w w') => left0_any (h.grow x)
  have h2' := h2
  unfold maxLen at h2
  have e1 : ¬ ((l.length : Int) - k < n) := by omega
  generalize hln : l.length = m at *
  have Hm := Lib.hid hln
  clear h h3 h4 hln
  go_enter Tryd.func80, Tryd.ntmps80
  go_wp2_with (go_at_call 84; (with_reducible refine (HL.out _ (by (try show Ex _ _); with_reducible repeat (first | exact ex_refl _ | assumption | refine ex_drewL ?_ | refine ex_appR ?_ _ | refine ex_wx ?_ _ | refine ex_drew ?_ | refine ex_alloc ?_ _))).mono ?_); rintro e w2 ⟨rfl, X2, rfl⟩)
  have H3 := (H.out.grow (show Ex w (wx w X2) from ⟨X2, rfl⟩)).set (n := k + n) (by have := Hm.out; omega)
  obtain ⟨W5, hW5⟩ : ∃ W5, (wx w X2).setCell ⟨q, 1, none⟩ (I ((k : Int) + n)) = W5 := ⟨_, rfl⟩
  have hW6 : wx (w.setCell ⟨q, 1, none⟩ (I ((k : Int) + n))) X2 = W5 := by rw [← hW5, wx_setI, if_pos hz]
  rw [show ((k + n : Nat) : Int) = (k : Int) + n by push_cast; rfl, hW5] at H3
  rw [hW6]
  clear hW5 hW6
  obtain ⟨t0, t1, t2, tf1, tz⟩ := H3.cells
  rw [show ((k + n : Nat) : Int) = (k : Int) + n by push_cast; rfl] at t1
  replace H3 := Lib.hid H3
  clear c0 c1 c2 f1 hz H HL
  have e2 : (k : Int) + n - n = k := by omega
  have e3 : (k : Int) + n ≤ c := by omega
  have e4 : (k : Int) ≤ (k : Int) + n := by omega
  have hc2 : ¬ c = k := by omega
  have hc3 : ¬ (c : Int) = k := by omega
  refine wp_region_fork (W5) (.look 0 (.look 1 (.look 2 (.look 3 (.look 4 (.look 5 (.look 6 (.look 7 (.look 8 (.look 9 (.look 10 (.look 11 (.look 12 (.look 13 (.look 14 (.look 15 (.look 16 (.look 17 (.look 18 .done))))))))))))))))))) (by (try show Ex _ _); with_reducible repeat (first | exact ex_refl _ | assumption | refine ex_drewL ?_ | refine ex_appR ?_ _ | refine ex_wx ?_ _ | refine ex_drew ?_ | refine ex_alloc ?_ _)) (by kernel_rfl) (by kernel_rfl) (fun _ _ d _ _ h => by cases d <;> exact h) ?_
  simp only [Fk.ops, nth]
  repeat (first | ((with_reducible refine wpFork_look ?_); go_big_quiet_step (fail); (try (with_reducible refine wpQuiet_nil ?_))) | (with_reducible refine wpFork_eff ?_) | ((with_reducible refine effT_F ?_ ?_); (focus rfl); go_simp) | ((with_reducible refine effT_T ?_ ?_); (focus rfl); (try dsimp only); go_wp2_with (fail); refine mixQ_mk (by (try show Ex _ _); with_reducible repeat (first | exact ex_refl _ | assumption | refine ex_drewL ?_ | refine ex_appR ?_ _ | refine ex_wx ?_ _ | refine ex_drew ?_ | refine ex_alloc ?_ _)) ?_))
  all_goals (with_reducible refine wpFork_nil ?_)
  all_goals go_wp2
  all_goals (try (exfalso; omega))
  all_goals (try contradiction)
  go_ret
  refine ⟨g, off, c, rfl, ?_, by omega, h2', H3.out.grow (by (try show Ex _ _); with_reducible repeat (first | exact ex_refl _ | assumption | refine ex_drewL ?_ | refine ex_appR ?_ _ | refine ex_wx ?_ _ | refine ex_drew ?_ | refine ex_alloc ?_ _))⟩
  show Ending.returned (.slice _ (k + n - k) (c - k)) = _
  rw [Nat.add_sub_cancel_left]
/-- The number of the first bytes. -/
def numU (l : By) : Nat → Nat
  | 0 => 0
  | j + 1 => 256 * numU l j + (l.getD j 0).toNat
theorem numU_lt (l : By) (j : Nat) : numU l j < 256 ^ j := by
  induction j with
  | zero => show 0 < 1; omega
  | succ j ih =>
    have := (l.getD j 0).toNat_lt
    unfold numU
    rw [Nat.pow_succ]
    omega
theorem numU_four (l : By) : numU l 4 = num4 l := by
  unfold num4 numU numU numU numU numU
  omega
theorem number0_any {A w : World} {q : Nat} {v : Value} {l : By} {k : Nat} (h : RdW A w q v l k) (hk : k + 4 ≤ l.length) :
    Calls Tryd.prog 79 #[PT q, I 4] w fun x w' => x = .returned (.int .u64 (num4 (l.drop k) : Nat)) ∧ RdW A w' q v l (k + 4) := by
  have HN := Lib.hid (next0_any h 4 (by omega) hk)
  have hsl := Lib.hid h.sl
  have hll := h.ll
  rw [← numU_four]
  obtain ⟨dl, hdl⟩ : ∃ dl, l.drop k = dl := ⟨_, rfl⟩
  rw [hdl]
  have Hdl := Lib.hid hdl
  clear h hdl
  go_enter Tryd.func79, Tryd.ntmps79
  go_wp2_with (go_at_call 80; (refine (HN.out).mono ?_); rintro e w2 ⟨g, off, c, rfl, rfl, n1, n2, H2⟩; replace H2 := Lib.hid H2)
  have HC : Hid (g < A.heap.size ∧ ∀ W, Ex A W → ∀ j, j < 4 → W.cell? ⟨g, off + k + j, none⟩ = some (B (dl.getD j 0))) := Lib.hid (by
    rw [← Hdl.out]
    obtain ⟨a, c', hv, _, _, _, h4⟩ := hsl.out.out
    obtain ⟨ha, _, _⟩ := Value.slice.inj hv
    obtain ⟨g', off', e1, e2, e3⟩ := SlB.pos h4 (by omega)
    rw [← ha] at e1
    cases e1
    refine ⟨e2, fun W x j hj => ?_⟩
    have := e3 (k + j) (by omega)
    obtain ⟨X, rfl⟩ := x
    rw [wx_cell _ _ _ e2, Nat.add_assoc, this]
    unfold gF
    rw [List.getD_eq_getElem?_getD, List.getD_eq_getElem?_getD, List.getElem?_drop])
  obtain ⟨hgz, HC⟩ := HC.out
  replace HC := Lib.hid HC
  have hA2 := H2.out.ex
  have hz2 := ex_size hA2
  clear HN hsl
  go_loopw [4, 11] (fun x i W => ∃ j : Nat, j ≤ 4 ∧ i = I j ∧ x = .int .u64 (numU dl j : Nat) ∧ Ex w2 W) (fun _ i _ => 4 - (intOf i).toNat)
  case atStart => exact ⟨0, by omega, rfl, rfl, ex_refl _⟩
  case round =>
    obtain ⟨j, hj, rfl, rfl, hw⟩ := hrel
    by_cases hlt : j < 4
    · have hcell := HC.out wr (ex_trans hA2 hw) j hlt
      have hzr := ex_size hw
      have zg : g < wr.heap.size := by omega
      have hub := numU_lt dl j
      have hp4 : 256 ^ j ≤ 16777216 := by
        have : 256 ^ j ≤ 256 ^ 3 := Nat.pow_le_pow_right (by omega) (by omega)
        simpa using this
      have hbl := (dl.getD j 0).toNat_lt
      have hor := or256 (numU dl j) (dl.getD j 0).toNat (by omega) (by omega)
      have hst : numU dl (j + 1) = 256 * numU dl j + (dl.getD j 0).toNat := rfl
      have hw8 : IntKind.u64.wrap (bn (dl.getD j 0)) = bn (dl.getD j 0) := by rw [IntKind.wrap_u64]; unfold bn; omega
      have hmx : (numU dl j : Int) * 256 % 18446744073709551616 = numU dl j * 256 := by omega
      replace hor : bits BinOp.or IntKind.u64 ((numU dl j : Int) * 256) (bn (dl.getD j 0)) = ((256 * numU dl j + (dl.getD j 0).toNat : Nat) : Int) := hor
      replace hst := Lib.hid hst
      generalize numU dl j = x at *
      generalize dl.getD j 0 = b at *
      have hj4 : (j : Int) < 4 := by omega
      clear hub hp4 hbl
      go_wp2
      exact ⟨⟨j + 1, by omega, by go_num, by rw [hst.out]; push_cast; rfl, hw⟩, by simp [intOf]; omega⟩
    · obtain rfl : j = 4 := by omega
      go_wp2
      go_ret
      exact ⟨rfl, H2.out.grow hw⟩
theorem u32_any {A w : World} {q : Nat} {v : Value} {l : By} {k : Nat} (h : RdW A w q v l k) (hk : k + 4 ≤ l.length) :
    Calls Tryd.prog 68 #[PT q] w fun x w' => x = .returned (U4 (num4 (l.drop k))) ∧ RdW A w' q v l (k + 4) := by
  have HN := Lib.hid (number0_any h hk)
  have hx := num4_lt (l.drop k)
  generalize num4 (l.drop k) = x at *
  have hm : (x : Int) % 4294967296 = x := by omega
  clear h
  go_enter Tryd.func68, Tryd.ntmps68
  go_wp2_with (go_at_call 79; (with_reducible refine (HN.out).mono ?_); rintro e w2 ⟨rfl, H2⟩; replace H2 := Lib.hid H2)
  go_ret
  exact ⟨rfl, H2.out⟩
theorem raw4_any {A w : World} {q : Nat} {v : Value} {l : By} {k : Nat} (h : RdW A w q v l k) (hk : k + 4 ≤ l.length) :
    Calls Tryd.prog 69 #[PT q, I 4] w fun x w' => ∃ u, x = .returned u ∧ TyB w' u ((l.drop k).take 4) ∧ RdW A w' q v l (k + 4) := by
  have HN := Lib.hid (next0_any h 4 (by omega) hk)
  have hsl := Lib.hid h.sl
  obtain ⟨b4, hb4⟩ : ∃ b4, (l.drop k).take 4 = b4 := ⟨_, rfl⟩
  have hl4 : b4.length = 4 := by rw [← hb4, List.length_take, List.length_drop]; omega
  rw [hb4]
  have Hb4 := Lib.hid hb4
  replace hl4 := Lib.hid hl4
  clear h hb4
  go_enter Tryd.func69, Tryd.ntmps69
  go_wp2_with (go_at_call 80; (refine (HN.out).mono ?_); rintro e w2 ⟨g, off, c, rfl, rfl, n1, n2, H2⟩; replace H2 := Lib.hid H2)
  have HS : Hid (SlT w2 (.slice (some ⟨g, off + k, none⟩) 4 (c - k)) b4) := Lib.hid (by
    have hl4 := hl4.out
    obtain ⟨a, c', hv, _, _, _, h4⟩ := hsl.out.out
    obtain ⟨ha, _, _⟩ := Value.slice.inj hv
    obtain ⟨g', off', e1, e2, e3⟩ := SlB.pos h4 (by omega)
    rw [← ha] at e1
    cases e1
    refine SlT.ex (w := A) ⟨_, c - k, by rw [hl4], by rw [hl4]; exact n1, by omega, (fun e => by cases e), SlB.mk' e2 fun j hj => ?_⟩ H2.out.ex
    rw [hl4] at hj
    have := e3 (k + j) (by omega)
    rw [Nat.add_assoc, this, ← Hb4.out]
    unfold gF
    rw [List.getD_eq_getElem?_getD, List.getD_eq_getElem?_getD, List.getElem?_take_of_lt hj, List.getElem?_drop])
  have HC := Lib.hid (cloneT_any HS.out (by rw [hl4.out]; omega))
  clear HN hsl HS
  go_wp2_with (go_at_call 47; (with_reducible refine HC.out.mono ?_); rintro e w3 ⟨u3, rfl, hO, X, rfl⟩)
  go_ret
  exact ⟨_, rfl, hO, H2.out.grow (by (try show Ex _ _); with_reducible repeat (first | exact ex_refl _ | assumption | refine ex_drewL ?_ | refine ex_appR ?_ _ | refine ex_wx ?_ _ | refine ex_drew ?_ | refine ex_alloc ?_ _))⟩
end Go.Proofs.YtabjamkkhlbajaaDoor

/- The log: put. -/
set_option linter.unusedSimpArgs false
set_option linter.unusedVariables false
set_option linter.unnecessarySimpa false
set_option maxRecDepth 20000
namespace Go.Proofs.YtabjamkkhlbajaaDoor
open Go.RowKit
/-- What turns a log. -/
def PostLg (p : Nat) (L : Loc) (w : World) (r : Dk × Wl × Int) (e : Ending) (w' : World) : Prop := ∃ L', e = .returned (I r.2.2) ∧ LgM w' p L' r.1 r.2.1 ∧ Wv p L w L' w'
set_option maxHeartbeats 2000000 in
theorem put_no {w : World} {p : Nat} {L : Loc} {d : Dk} {wl : Wl} (h : LgM w p L d wl) (hcB : CmB wl.c) (side : Nat) (ahead : Cm) (haB : CmB ahead) (v : Value) (b : By) (hs : TyB w v b) (hb : b.length ≤ 1000000)
    (h1 : wl.c.n ≤ 1000) (h2 : ahead.used ≤ 1000) (hno : wl.br = true ∨ 50000 < b.length ∨ wl.c.n < ahead.used + secs b.length ∨ wl.c.turn = 1073741824) :
    Calls Tryd.prog 45 #[PT p, U4 side, .agg (CR ahead), v] w (PostLg p L w (putD HW d wl side ahead.used ahead.all ahead.mark b)) := by
  obtain ⟨a, c, rfl, l1, l2, l3, _⟩ := hs.out
  obtain ⟨sv, hp, hsv⟩ := h.out
  have HM := Lib.hid h
  have zp := (Array.getElem?_eq_some_iff.1 hp).1
  have c11 := (block_cellF (o := 11) (v := .bool wl.br) hp rfl).1
  have c1 := (block_cellF (o := 1) (v := U4 wl.c.n) hp rfl).1
  have c0 := (block_cellF (o := 0) (v := U4 wl.c.turn) hp rfl).1
  obtain ⟨n, hn⟩ : ∃ n, b.length = n := ⟨_, rfl⟩
  have HSc : Hid (∀ w', Calls Tryd.prog 10 #[I n] w' (Post w' (I (secI n)))) := Lib.hid fun w' => sectors_any n (by omega) (by omega) w'
  unfold putD
  rw [hn] at hno ⊢
  have hpost : ∀ e W', Ex w W' → PostLg p L w (d, wl, e) (.returned (I e)) W' := fun e W' k => ⟨L, rfl, HM.out.ex k, Wv.ofDv (Dv.ofEx k)⟩
  have HP := Lib.hid hpost
  have e32 : secI n % 4294967296 = secI n := by unfold secI; split <;> omega
  have hbn : n ≤ 1000000 := by omega
  clear h hs hp hsv hpost
  by_cases hbr : wl.br = true
  · rw [if_pos hbr]
    rw [hbr] at c11
    clear hno
    go_enter Tryd.func45, Tryd.ntmps45
    go_wp2_with (go_at_call 10; (with_reducible refine (HSc.out _).mono ?_); rintro e w2 ⟨rfl, X, rfl⟩)
    go_ret
    exact HP.out _ _ (by (try show Ex _ _); with_reducible repeat (first | exact ex_refl _ | assumption | refine ex_drewL ?_ | refine ex_appR ?_ _ | refine ex_wx ?_ _ | refine ex_drew ?_ | refine ex_alloc ?_ _))
  · rw [if_neg hbr]
    have hbr2 : wl.br = false := by simpa using hbr
    rw [hbr2] at c11
    by_cases hlg : 50000 < n
    · rw [if_pos hlg]
      clear hno
      go_enter Tryd.func45, Tryd.ntmps45
      go_wp2_with (go_at_call 10; (with_reducible refine (HSc.out _).mono ?_); rintro e w2 ⟨rfl, X, rfl⟩)
      go_ret
      exact HP.out _ _ (by (try show Ex _ _); with_reducible repeat (first | exact ex_refl _ | assumption | refine ex_drewL ?_ | refine ex_appR ?_ _ | refine ex_wx ?_ _ | refine ex_drew ?_ | refine ex_alloc ?_ _))
    · have hfull := (hno.resolve_left hbr).resolve_left hlg
      rw [if_neg hlg, if_pos hfull]
      rw [secI_nat (by omega)] at HSc
      have hs1 : secs n ≤ 1000 := by unfold secs; omega
      generalize secs n = k at *
      clear hno e32
      have ea : ((ahead.used : Int) + k) % 4294967296 = ahead.used + k := by omega
      by_cases hf1 : wl.c.n < ahead.used + k
      · have t1 : decide ((wl.c.n : Int) < (ahead.used : Int) + k) = true := decide_eq_true (by omega)
        clear hfull hf1
        go_enter Tryd.func45, Tryd.ntmps45
        go_wp2_with (go_at_call 10; (with_reducible refine (HSc.out _).mono ?_); rintro e w2 ⟨rfl, X, rfl⟩)
        refine wp_region_seqA (w.alloc (.cells (CR ahead) 62)) [(0, true), (1, true), (2, true), (3, true), (4, true), (5, true), (6, true), (7, true), (8, true), (9, true), (10, true), (11, true), (12, true), (13, true), (14, true), (15, true), (16, true), (17, true), (18, true)] (by (try show Ex _ _); with_reducible repeat (first | exact ex_refl _ | assumption | refine ex_drewL ?_ | refine ex_appR ?_ _ | refine ex_wx ?_ _ | refine ex_drew ?_ | refine ex_alloc ?_ _)) (by kernel_rfl) (by kernel_rfl) (fun _ _ d _ _ h => by cases d <;> exact h) ?_
        simp only [List.map_cons, List.map_nil, nth]
        repeat (first | ((with_reducible refine wpSeq_look ?_); go_big_quiet_step (fail); (with_reducible refine wpQuiet_nil ?_)) | ((with_reducible refine wpSeq_effF ?_ ?_); (focus rfl); go_simp) | ((with_reducible refine wpSeq_eff ?_ ?_); (focus rfl); (try dsimp only); go_wp2_with (fail); refine mixQ_mk (by (try show Ex _ _); with_reducible repeat (first | exact ex_refl _ | assumption | refine ex_drewL ?_ | refine ex_appR ?_ _ | refine ex_wx ?_ _ | refine ex_drew ?_ | refine ex_alloc ?_ _)) ?_))
        refine wpSeq_nil ?_
        go_wp2
        go_ret
        exact HP.out _ _ (by (try show Ex _ _); with_reducible repeat (first | exact ex_refl _ | assumption | refine ex_drewL ?_ | refine ex_appR ?_ _ | refine ex_wx ?_ _ | refine ex_drew ?_ | refine ex_alloc ?_ _))
      · have t1 : decide ((wl.c.n : Int) < (ahead.used : Int) + k) = false := decide_eq_false (by omega)
        have t2 : ((wl.c.turn : Int) == 1073741824) = true := by rw [hfull.resolve_left hf1]; rfl
        clear hfull hf1
        go_enter Tryd.func45, Tryd.ntmps45
        go_wp2_with (go_at_call 10; (with_reducible refine (HSc.out _).mono ?_); rintro e w2 ⟨rfl, X, rfl⟩)
        refine wp_region_seqA (w.alloc (.cells (CR ahead) 62)) [(0, true), (1, true), (2, true), (3, true), (4, true), (5, true), (6, true), (7, true), (8, true), (9, true), (10, true), (11, true), (12, true), (13, true), (14, true), (15, true), (16, true), (17, true), (18, true)] (by (try show Ex _ _); with_reducible repeat (first | exact ex_refl _ | assumption | refine ex_drewL ?_ | refine ex_appR ?_ _ | refine ex_wx ?_ _ | refine ex_drew ?_ | refine ex_alloc ?_ _)) (by kernel_rfl) (by kernel_rfl) (fun _ _ d _ _ h => by cases d <;> exact h) ?_
        simp only [List.map_cons, List.map_nil, nth]
        repeat (first | ((with_reducible refine wpSeq_look ?_); go_big_quiet_step (fail); (with_reducible refine wpQuiet_nil ?_)) | ((with_reducible refine wpSeq_effF ?_ ?_); (focus rfl); go_simp) | ((with_reducible refine wpSeq_eff ?_ ?_); (focus rfl); (try dsimp only); go_wp2_with (fail); refine mixQ_mk (by (try show Ex _ _); with_reducible repeat (first | exact ex_refl _ | assumption | refine ex_drewL ?_ | refine ex_appR ?_ _ | refine ex_wx ?_ _ | refine ex_drew ?_ | refine ex_alloc ?_ _)) ?_))
        refine wpSeq_nil ?_
        go_wp2
        go_ret
        exact HP.out _ _ (by (try show Ex _ _); with_reducible repeat (first | exact ex_refl _ | assumption | refine ex_drewL ?_ | refine ex_appR ?_ _ | refine ex_wx ?_ _ | refine ex_drew ?_ | refine ex_alloc ?_ _))
end Go.Proofs.YtabjamkkhlbajaaDoor

/- The log in memory: rows of sheets. -/
set_option linter.unusedSimpArgs false
set_option linter.unusedVariables false
set_option linter.unnecessarySimpa false
set_option maxRecDepth 20000
namespace Go.Proofs.YtabjamkkhlbajaaDoor
open Go.RowKit
theorem Ky.setP {w : World} {p : Nat} {cs : Array Value} {fr : Nat × Nat} (h : w.heap[p]? = some (.cells cs 64 fr)) (o : Nat) (v : Value) : Ky w (w.setCell ⟨p, o, none⟩ v) := fun g cs2 t fr2 hg ht => by
  by_cases e : g = p
  · subst e
    rw [h] at hg
    cases hg
    rcases ht with ht | ht <;> exact absurd ht (by decide)
  · exact (setCell_heap v e).trans hg
theorem slsh_own {w : World} {Z n : Nat} {v : Value} {us : List Value} {ls : List By} (h : w.ownsRow Z 22 1 v n us) (hn : ls.length = n) (hu : ∀ (j : Nat) (l : By), ls[j]? = some l → ∃ u, us[j]? = some u ∧ TyB w u l) : SlSh w v ls := by
  subst hn
  obtain ⟨a, c, rfl, h1, h2, h3⟩ := own_form h
  refine ⟨a, c, rfl, h1, h2, h3, ?_⟩
  rcases Nat.eq_zero_or_pos ls.length with h0 | h0
  · exact Or.inl (List.eq_nil_of_length_eq_zero h0)
  · right
    obtain ⟨g, cap, cur, hv2, k1, k2, k3, k4, k5, k6⟩ := own_block h h0 (by omega)
    obtain ⟨ha, _, _⟩ := Value.slice.inj hv2
    refine ⟨g, 0, cur, (0, 0), ha, k2, fun j l hl => ?_⟩
    obtain ⟨u, h1, h2⟩ := hu j l hl
    have hj : j < ls.length := (List.getElem?_eq_some_iff.1 hl).1
    refine ⟨u, ?_, h2⟩
    rw [← k6, List.getElem?_take_of_lt (by omega), Array.getElem?_toList] at h1
    rw [Nat.zero_add]; exact h1
theorem appSh : AppT Tryd.prog 30 22 1 24 (.slice none 0 0) := ⟨Tryd.underlying30, by kernel_rfl, rfl, by decide⟩
/-- A sheet's slice behind others, all of whose room is taken. -/
theorem wpAppSh {ops : Array Oper} {rest : List Oper} {o : Oper} {a : Act} {w : World} {Q : Exit → Act → World → Prop} (s x : Operand) (hgd : o.guard = none)
    (ho : o.op = .call { callee := .builtin .append, args := #[s, x], argTypes := #[30, 30] })
    {ao : Option Addr} {n : Nat} {olds : List Value} (hs : a.eval s = .slice ao n n) (hnone : ao = none → n = 0) (hlo : olds.length = n) (holds : ∀ b, ao = some b → ∀ (j : Nat) (u : Value), olds[j]? = some u → w.cell? (b.add j) = some u)
    {g c : Nat} {u : Value} (hx : a.eval x = .slice (some ⟨g, 0, none⟩) 1 c) (hc : w.cell? ⟨g, 0, none⟩ = some u) (h1 : u.oneCell' = true) (hb : n ≤ 1000000)
    (h : ∀ v' w', w'.ownsRow w.heap.size 22 1 v' (n + 1) (olds ++ [u]) → (∃ X, w' = wx w X) → wpList Tryd.prog ops Q rest (a.put o.dst v') w') : wpList Tryd.prog ops Q (o :: rest) a w := by
  obtain ⟨i, hi, h1', h2', h3'⟩ := info_parts appSh.hi
  refine wpList_append_grows w hgd s x _ ho _ i _ _ _ appSh.ht hi h1' h2' h3' appSh.hzs appSh.hsz ao n n olds hs (fun e => ⟨hnone e, hnone e⟩) (by rw [hlo]; omega) holds ⟨g, 0, none⟩ 1 c [u] hx rfl (fun j v hj => ?_) (fun v hv => by rw [List.mem_singleton.1 hv]; exact h1) (by omega) (by unfold maxLen; omega) (by omega) fun v' w' k1 k2 => h v' w' k1 (ex_of_below ⟨k2.os, k2.tape, k2.output, k2.size, fun b hb => k2.block b hb (fun e => by cases e)⟩)
  match j, hj with
  | 0, hj => rw [show v = u from (Option.some.inj hj).symm]; simpa [Addr.add] using hc
theorem SlSh.at {w : World} {a : Option Addr} {n c : Nat} {ls : List By} (h : SlSh w (.slice a n c) ls) {j : Nat} (hj : j < ls.length) : ∃ g off, a = some ⟨g, off, none⟩ ∧ g < w.heap.size ∧ ∃ u, w.cell? ⟨g, off + j, none⟩ = some u ∧ TyB w u (ls.getD j []) := by
  obtain ⟨a', c', hv, _, _, _, h4⟩ := h.out
  obtain ⟨rfl, _, _⟩ := Value.slice.inj hv
  rcases h4 with rfl | ⟨g, off, cs, fr, rfl, hb, hc⟩
  · exact absurd hj (by simp)
  · obtain ⟨u, hu, ht⟩ := hc j _ (List.getElem?_eq_getElem hj)
    refine ⟨g, off, rfl, (Array.getElem?_eq_some_iff.1 hb).1, u, by rw [cell_of_row w g (off + j) _ _ _ hb]; exact hu, ?_⟩
    rw [List.getD_eq_getElem?_getD, List.getElem?_eq_getElem hj]; exact ht
/-- The elements of a beginning. -/
theorem SlSh.olds {w : World} {g off c n : Nat} {ls : List By} (h : SlSh w (.slice (some ⟨g, off, none⟩) ls.length c) ls) (hn : n ≤ ls.length) : ∃ olds : List Value, olds.length = n ∧ (∀ (j : Nat) (u : Value), olds[j]? = some u → w.cell? ((⟨g, off, none⟩ : Addr).add j) = some u) ∧ (∀ (j : Nat) (l : By), (ls.take n)[j]? = some l → ∃ u, olds[j]? = some u ∧ TyB w u l) := by
  obtain ⟨a', c', hv, _, _, _, h4⟩ := h.out
  obtain ⟨ha, _, _⟩ := Value.slice.inj hv
  rcases h4 with h0 | ⟨g', off', cs, fr, e, hb, hc⟩
  · refine ⟨[], ?_, fun j u hj => by simp at hj, fun j l hl => ?_⟩
    · rw [h0] at hn; simp at hn ⊢; omega
    · rw [h0] at hl; simp at hl
  · rw [← ha] at e
    cases e
    refine ⟨(List.range n).map fun j => (cs[off + j]?).getD undef, by simp, fun j u hj => ?_, fun j l hl => ?_⟩
    · rw [List.getElem?_map] at hj
      by_cases hjn : j < n
      · rw [List.getElem?_range hjn] at hj
        obtain ⟨u2, hu2, _⟩ := hc j _ (List.getElem?_eq_getElem (by omega))
        rw [Option.map_some, hu2] at hj
        rw [Addr.add_lit, cell_of_row w g (off + j) _ _ _ hb, hu2, ← hj]; rfl
      · rw [List.getElem?_eq_none (by simp; omega)] at hj; cases hj
    · have hjn : j < (ls.take n).length := (List.getElem?_eq_some_iff.1 hl).1
      rw [List.length_take] at hjn
      rw [List.getElem?_take_of_lt (by omega)] at hl
      obtain ⟨u2, hu2, ht⟩ := hc j l hl
      refine ⟨u2, ?_, ht⟩
      rw [List.getElem?_map, List.getElem?_range (by omega), Option.map_some, hu2]; rfl
theorem slsh_snoc {w : World} {Z n : Nat} {v u : Value} {olds : List Value} {ls : List By} {b : By} (h : w.ownsRow Z 22 1 v (n + 1) (olds ++ [u])) (hn : ls.length = n) (ho : olds.length = n) (hu : ∀ (j : Nat) (l : By), ls[j]? = some l → ∃ u, olds[j]? = some u ∧ TyB w u l) (hb : TyB w u b) : SlSh w v (ls ++ [b]) := by
  refine slsh_own h (by rw [List.length_append, hn]; rfl) fun j l hl => ?_
  by_cases hj : j < n
  · rw [List.getElem?_append_left (l₁ := ls) (by omega)] at hl
    obtain ⟨x, h1, h2⟩ := hu j l hl
    exact ⟨x, by rw [List.getElem?_append_left (l₁ := olds) (by omega)]; exact h1, h2⟩
  · have hj2 : j < (ls ++ [b]).length := (List.getElem?_eq_some_iff.1 hl).1
    rw [List.length_append, hn] at hj2
    have : j = n := by simp at hj2; omega
    subst this
    rw [List.getElem?_append_right (l₁ := ls) (by omega), hn, Nat.sub_self] at hl
    obtain rfl : b = l := by simpa using hl
    exact ⟨u, by rw [List.getElem?_append_right (l₁ := olds) (by omega), ho, Nat.sub_self]; rfl, hb⟩
theorem DkAt.setP {w : World} {L : Loc} {d : Dk} (h : DkAt w L d) {p : Nat} (hp : ¬ L.own p) (o : Nat) (v : Value) : DkAt (w.setCell ⟨p, o, none⟩ v) L d := by
  obtain ⟨qv, hM⟩ := h.out
  exact ⟨qv, hM.keep fun b hb => setCell_heap v fun e => hp (by rw [← e]; exact hb)⟩
theorem put_fin {p : Nat} {L L2 : Loc} {w A w9 W' : World} {d1 : Dk} {cN : Cm} {sv v9 lv : Value} {olds : List Value} {sh : List By} {b : By} {all Z : Nat} (HD : DkAt A L2 d1) (HV : Wv p L w L2 A)
    (hp : A.heap[p]? = some (.cells (WR cN L.p sv false) 64 (0, 0))) (n2 : ¬ L2.own p) (k9 : Ex A w9) (hown : w9.ownsRow Z 22 1 v9 (all + 1) (olds ++ [lv])) (h4 : all ≤ sh.length) (ho : olds.length = all)
    (hol : ∀ (j : Nat) (l : By), (sh.take all)[j]? = some l → ∃ u, olds[j]? = some u ∧ TyB A u l) (hb : TyB w9 lv b) (k : Ex (w9.setCell ⟨p, 10, none⟩ v9) W') : LgM W' p L2 d1 ⟨cN, sh.take all ++ [b], false⟩ ∧ Wv p L w L2 W' := by
  have h9 := ex_block k9 hp
  have h10 := setCell_block (o := 10) v9 h9
  have hsh := slsh_snoc (n := all) (ls := sh.take all) (b := b) hown (by rw [List.length_take]; omega) ho (fun j l hl => by
    obtain ⟨u, q1, q2⟩ := hol j l hl
    exact ⟨u, q1, q2.ky (Ky.ex k9)⟩) hb
  have hM : LgM (w9.setCell ⟨p, 10, none⟩ v9) p L2 d1 ⟨cN, sh.take all ++ [b], false⟩ := ⟨(HD.ex k9).setP n2 10 _, ⟨v9, by rw [HV.pp]; exact h10, hsh.ky (Ky.setP h9 10 v9)⟩, n2⟩
  exact ⟨hM.ex k, ((HV.grow k9).set 10 _).grow k⟩
end Go.Proofs.YtabjamkkhlbajaaDoor

/- The log: put, when it goes on. -/
set_option linter.unusedSimpArgs false
set_option linter.unusedVariables false
set_option linter.unnecessarySimpa false
set_option maxRecDepth 20000
namespace Go.Proofs.YtabjamkkhlbajaaDoor
open Go.RowKit
def build6Run (P : Program) (t : TypeId) (v0 v1 v2 v3 v4 v5 : Value) (w : World) : Result Next := ((Instr.build t #[(0, v0), (1, v1), (2, v2), (3, v3), (4, v4), (5, v5)]).run P w).andThen fun x w' => .ok (.value x) w'
@[go_sem ↓ high] theorem run_build6_pre {P : Program} (ρ : Operand → Value) (d : Option Tmp) (t : TypeId) (x0 x1 x2 x3 x4 x5 : Operand) (ty : TypeId) (pos : String) (aft : Array Edge) (g : Option (Nat × Bool)) (w : World) :
    Sem.run P (execOp ρ ⟨d, .build t #[(0, x0), (1, x1), (2, x2), (3, x3), (4, x4), (5, x5)], ty, pos, aft, g⟩) w = build6Run P t (ρ x0) (ρ x1) (ρ x2) (ρ x3) (ρ x4) (ρ x5) w := by
  simp only [execOp, Sem.run_bind, Sem.run_pure, build6Run, List.map_toArray, List.map_cons, List.map_nil]
@[go_sem low] theorem build6Run_other {P : Program} (t : TypeId) (v0 v1 v2 v3 v4 v5 : Value) (w : World) : build6Run P t v0 v1 v2 v3 v4 v5 w = ((Instr.build t #[(0, v0), (1, v1), (2, v2), (3, v3), (4, v4), (5, v5)]).run P w).andThen fun x w' => .ok (.value x) w' := rfl
theorem built_claim (t n s u a : Int) (f : Nat → UInt8) : Tryd.prog.built 62 [(0, .int .u32 t), (1, .int .u32 n), (2, .int .u32 s), (3, .int .u32 u), (4, .int .u32 a), (5, .agg (rowB 4 f))] = some #[.int .u32 t, .int .u32 n, .int .u32 s, .int .u32 u, .int .u32 a, B (f 0), B (f 1), B (f 2), B (f 3)] := by kernel_rfl
@[go_sem] theorem build6_claim (t n s u a : Int) (f : Nat → UInt8) (w : World) : build6Run Tryd.prog 62 (.int .u32 t) (.int .u32 n) (.int .u32 s) (.int .u32 u) (.int .u32 a) (.agg (rowB 4 f)) w = .ok (.value (.agg #[.int .u32 t, .int .u32 n, .int .u32 s, .int .u32 u, .int .u32 a, B (f 0), B (f 1), B (f 2), B (f 3)])) w := by
  unfold build6Run
  rw [run_build w _ _ _ (built_claim t n s u a f)]; rfl
theorem own_form9 {w : World} {Z : Nat} {t : TypeId} {s n : Nat} {v : Value} {xs : List Value} (h : w.ownsRow Z t s v n xs) : ∃ a c, v = .slice a n c ∧ True := by
  rcases h.2 with h0 | ⟨g, cap, cur, rfl, _⟩
  · obtain ⟨h1, h2⟩ := h0
    refine ⟨none, 0, ?_, trivial⟩
    first | (rw [h1, h2]) | (subst h1; subst h2; rfl)
  · exact ⟨_, _, rfl, trivial⟩
/-- In the midst of put: the next head's claim. -/
def midP (A : World) (c : Cm) (ks : List Nat) (a0 a' : Act) (w' : World) : Prop :=
  ∃ gd, a'.tmps.getD 10 undef = PT gd ∧ a' = ks.foldl (fun a k => a.put (some k) (a'.tmps.getD k undef)) a0 ∧ w'.heap[gd]? = some (.cells (CR c) 62 (0, 0)) ∧ A.heap.size ≤ gd ∧ Ex A w'
theorem midP_mk {A : World} {c : Cm} {ks : List Nat} {a0 a' : Act} {w' : World} {gd : Nat} (h1 : a'.tmps.getD 10 undef = PT gd) (h2 : a' = ks.foldl (fun a k => a.put (some k) (a'.tmps.getD k undef)) a0) (h3 : w'.heap[gd]? = some (.cells (CR c) 62 (0, 0))) (h4 : A.heap.size ≤ gd) (h5 : Ex A w') : midP A c ks a0 a' w' := ⟨gd, h1, h2, h3, h4, h5⟩
theorem mid_block {A B w' : World} {cs : Array Value} {c : Cm} {gd : Nat} (hg : gd = B.heap.size) (k : Ex (B.alloc (.cells cs 62)) w') (hc : cs = CR c) : w'.heap[gd]? = some (.cells (CR c) 62 (0, 0)) := by
  subst hg hc
  exact ex_block k (heap_alloc_new B _)
/-- Behind wal.all in put. -/
def midQ (p : Nat) (L : Loc) (A : World) (r : Dk × Int) (c c0 : Cm) (sv : Value) (br : Bool) (ks : List Nat) (a0 a' : Act) (w' : World) : Prop :=
  ∃ L2, a'.tmps.getD 11 undef = I r.2 ∧ a' = ks.foldl (fun a k => a.put (some k) (a'.tmps.getD k undef)) a0 ∧ DkAt w' L2 r.1 ∧ Wv p L A L2 w' ∧ w'.heap[p]? = some (.cells (WR (if r.2 = 0 then c else c0) L.p sv br) 64 (0, 0))
theorem midQ_mk {p : Nat} {L L2 : Loc} {A : World} {r : Dk × Int} {c c0 : Cm} {sv : Value} {br : Bool} {ks : List Nat} {a0 a' : Act} {w' : World} (h1 : a'.tmps.getD 11 undef = I r.2) (h2 : a' = ks.foldl (fun a k => a.put (some k) (a'.tmps.getD k undef)) a0) (h3 : DkAt w' L2 r.1) (h4 : Wv p L A L2 w') (h5 : w'.heap[p]? = some (.cells (WR (if r.2 = 0 then c else c0) L.p sv br) 64 (0, 0))) : midQ p L A r c c0 sv br ks a0 a' w' := ⟨L2, h1, h2, h3, h4, h5⟩
set_option maxHeartbeats 4000000 in
theorem put_go {w0 w : World} (G : Glob w0) (k0 : Ex w0 w) {p : Nat} {L : Loc} {d : Dk} {wl : Wl} (h : LgM w p L d wl) (hcB : CmB wl.c) (side : Nat) (ahead : Cm) (haB : CmB ahead) (v : Value) (b : By) (hs : TyB w v b)
    (h1 : wl.c.n ≤ 1000) (h2 : ahead.used ≤ 1000) (h3 : side ≤ 1) (h4 : ahead.all ≤ wl.sh.length) (h5 : wl.sh.length ≤ 100000) (h50 : 0 < wl.sh.length) (h6 : wl.c.turn ≤ 1073741824) (ho : ∀ x, L.own x → w0.heap.size ≤ x) (hpo : w0.heap.size ≤ p) (hops : d.ops + 2000 < 1000000000) (hq : d.qu.length + 2000 < 1000000)
    (g1 : wl.br = false) (g2 : b.length ≤ 50000) (g3 : ahead.used + secs b.length ≤ wl.c.n) (g4 : wl.c.turn ≠ 1073741824) :
    Calls Tryd.prog 45 #[PT p, U4 side, .agg (CR ahead), v] w (PostLg p L w (putD HW d wl side ahead.used ahead.all ahead.mark b)) := by
  obtain ⟨a, c, rfl, l1, l2, l3, _⟩ := hs.out
  obtain ⟨sv, hp, hsv⟩ := h.out
  have HM := Lib.hid h
  have HTy := Lib.hid hs
  have zp := (Array.getElem?_eq_some_iff.1 hp).1
  have c11 := (block_cellF (o := 11) (v := .bool wl.br) hp rfl).1
  have c1 := (block_cellF (o := 1) (v := U4 wl.c.n) hp rfl).1
  have c0 := (block_cellF (o := 0) (v := U4 wl.c.turn) hp rfl).1
  have c9 := (block_cellF (o := 9) (v := PT L.p) hp rfl).1
  rw [g1] at c11
  obtain ⟨n, hn⟩ : ∃ n, b.length = n := ⟨_, rfl⟩
  obtain ⟨k, hk⟩ : ∃ k, secs n = k := ⟨_, rfl⟩
  have HSc : Hid (∀ w', Calls Tryd.prog 10 #[I n] w' (Post w' (I (k : Int)))) := Lib.hid fun w' => by
    have := sectors_any n (by omega) (by omega) w'
    rwa [secI_nat (by omega), hk] at this
  have hk1 : k ≤ 1000 := by rw [← hk]; unfold secs; omega
  have hr : putD HW d wl side ahead.used ahead.all ahead.mark b = if (layD HW d (2 + (side * wl.c.n + ahead.used)) b (nextC HW wl.c side ahead.used ahead.all ahead.mark b)).2 = 0 then
      ((layD HW d (2 + (side * wl.c.n + ahead.used)) b (nextC HW wl.c side ahead.used ahead.all ahead.mark b)).1, ⟨nextC HW wl.c side ahead.used ahead.all ahead.mark b, wl.sh.take ahead.all ++ [b], false⟩, 0)
    else ((layD HW d (2 + (side * wl.c.n + ahead.used)) b (nextC HW wl.c side ahead.used ahead.all ahead.mark b)).1, { wl with br := true }, (layD HW d (2 + (side * wl.c.n + ahead.used)) b (nextC HW wl.c side ahead.used ahead.all ahead.mark b)).2) := by
    unfold putD
    rw [if_neg (by simp [g1]), if_neg (by omega), if_neg (by omega)]
  rw [hn] at g2 g3 l1 ⊢
  rw [hk] at g3
  have HN := Lib.hid hn
  have HK := Lib.hid hk
  have HR := Lib.hid hr
  have ea : ((ahead.used : Int) + k) % 4294967296 = ahead.used + k := by omega
  have t1 : decide ((wl.c.n : Int) < (ahead.used : Int) + k) = false := decide_eq_false (by omega)
  have t2 : ((wl.c.turn : Int) == 1073741824) = false := beq_eq_false_iff_ne.2 (by omega)
  have eb : ((wl.c.turn : Int) + 1) % 4294967296 = wl.c.turn + 1 := by omega
  have hall : ahead.all ≤ 100000 := by omega
  have ec : ((ahead.all : Int) + 1) % 4294967296 = ahead.all + 1 := by omega
  have hmk := haB.hm
  have Hsv := Lib.hid hsv
  clear hn hk hr h hs hsv
  have HMk : Hid (∀ w', Ex (w.alloc (.cells (CR ahead) 62)) w' → SlT w' (.slice (some ⟨w.heap.size, 5, none⟩) 4 4) ahead.mark) := Lib.hid fun w' kk => by
    have hb := ex_block kk (heap_alloc_new w (.cells (CR ahead) 62))
    refine ⟨_, 4, by rw [hmk], by rw [hmk]; omega, by decide, (fun e => by cases e), SlB.mk' (Array.getElem?_eq_some_iff.1 hb).1 fun j hj => ?_⟩
    rw [hmk] at hj
    rw [cell_of_row w' w.heap.size (5 + j) _ _ _ hb]
    match j, hj with
    | 0, _ => rfl
    | 1, _ => rfl
    | 2, _ => rfl
    | 3, _ => rfl
  have HDg : Hid (∀ w' g, Ex (w.alloc (.cells (CR ahead) 62)) w' → w'.cell? ⟨g, 0, none⟩ = some (.slice (some ⟨w.heap.size, 5, none⟩) 4 4) → w'.cell? ⟨g, 1, none⟩ = some (.slice a n c) → Calls Tryd.prog 34 #[.slice (some ⟨g, 0, none⟩) 2 2] w' (Post w' (.agg (rowB 4 (gF (HW (ahead.mark ++ b))))))) := Lib.hid fun w' g kk hc hc2 => by
    have hv := HTy.out.slt.ex (ex_trans (ex_alloc (ex_refl _) _) kk)
    rw [HN.out] at hv
    exact digest2_any G (ex_trans k0 (ex_trans (ex_alloc (ex_refl _) _) kk)) hc hc2 (HMk.out w' kk) hv (by rw [hmk, HN.out]; omega)
  go_enter Tryd.func45, Tryd.ntmps45
  go_wp2_with (go_at_call 10; (with_reducible refine (HSc.out _).mono ?_); rintro e w2 ⟨rfl, X, rfl⟩)
  refine wp_region_seqA (w.alloc (.cells (CR ahead) 62)) [(0, true), (1, true), (2, true), (3, true), (4, true), (5, true), (6, true), (7, true), (8, true), (9, true), (10, true), (11, true), (12, true), (13, true), (14, true), (15, true), (16, true), (17, true), (18, true)] (by (try show Ex _ _); with_reducible repeat (first | exact ex_refl _ | assumption | refine ex_drewL ?_ | refine ex_appR ?_ _ | refine ex_wx ?_ _ | refine ex_drew ?_ | refine ex_alloc ?_ _)) (by kernel_rfl) (by kernel_rfl) (fun _ _ d _ _ h => by cases d <;> exact h) ?_
  simp only [List.map_cons, List.map_nil, nth]
  repeat (first | ((with_reducible refine wpSeq_look ?_); go_big_quiet_step (fail); (with_reducible refine wpQuiet_nil ?_)) | ((with_reducible refine wpSeq_effF ?_ ?_); (focus rfl); go_simp) | ((with_reducible refine wpSeq_eff ?_ ?_); (focus rfl); (try dsimp only); go_wp2_with (fail); refine mixQ_mk (by (try show Ex _ _); with_reducible repeat (first | exact ex_refl _ | assumption | refine ex_drewL ?_ | refine ex_appR ?_ _ | refine ex_wx ?_ _ | refine ex_drew ?_ | refine ex_alloc ?_ _)) ?_))
  refine wpSeq_nil ?_
  go_wp2
  have hCR : #[.int .u32 ((wl.c.turn : Int) + 1), U4 wl.c.n, U4 side, .int .u32 ((ahead.used : Int) + k), .int .u32 ((ahead.all : Int) + 1), B (gF (HW (ahead.mark ++ b)) 0), B (gF (HW (ahead.mark ++ b)) 1), B (gF (HW (ahead.mark ++ b)) 2), B (gF (HW (ahead.mark ++ b)) 3)] = CR (nextC HW wl.c side ahead.used ahead.all ahead.mark b) := by
    show _ = #[U4 (wl.c.turn + 1), U4 wl.c.n, U4 side, U4 (ahead.used + secs b.length), U4 (ahead.all + 1), B (gF (HW (ahead.mark ++ b)) 0), B (gF (HW (ahead.mark ++ b)) 1), B (gF (HW (ahead.mark ++ b)) 2), B (gF (HW (ahead.mark ++ b)) 3)]
    rw [HN.out, HK.out]
    unfold U4
    push_cast
    rfl
  have HCR := Lib.hid hCR
  clear hCR
  refine wp_mid (fun a0 a' w' => midP (w.alloc (.cells (CR ahead) 62)) (nextC HW wl.c side ahead.used ahead.all ahead.mark b) [44, 45, 46, 47, 48, 49, 50, 51, 52, 53, 54, 55, 56, 57, 58, 59, 60, 61, 62, 63, 64, 65, 66, 67, 68, 10] a0 a' w') ?_ ?_
  · refine wp_region_forkJ (w.alloc (.cells (CR ahead) 62)) (.look 0 (.look 1 (.look 2 (.look 3 (.look 4 (.look 5 (.look 6 (.look 7 (.look 8 (.look 9 (.look 10 (.look 11 (.look 12 (.look 13 (.look 14 (.look 15 (.look 16 (.look 17 (.look 18 (.look 19 (.look 20 (.look 21 (.fork 22 (.fork 23 (.look 24 (.eff 25 (.eff 26 .done))) 25 (.eff 23 (.look 24 (.eff 26 .done)))) 25 (.eff 22 (.eff 23 (.look 24 (.eff 26 .done))))))))))))))))))))))))))) (by (try show Ex _ _); with_reducible repeat (first | exact ex_refl _ | assumption | refine ex_drewL ?_ | refine ex_appR ?_ _ | refine ex_wx ?_ _ | refine ex_drew ?_ | refine ex_alloc ?_ _)) (by kernel_rfl) (by kernel_rfl) (fun _ _ d _ _ h => by cases d <;> exact h) ?_
    simp only [Fj.ops, nth]
    repeat (first | ((with_reducible refine wpForkJ_look ?_); go_big_quiet_step (fail); (try (with_reducible refine wpQuiet_nil ?_))) | (with_reducible refine wpForkJ_eff ?_) | ((with_reducible refine effT_F ?_ ?_); (focus rfl); go_simp) | ((with_reducible refine effT_T ?_ ?_); (focus rfl); (try dsimp only); go_wp2_with ((go_at_call 34; (with_reducible refine (HDg.out _ _ (by (try show Ex _ _); with_reducible repeat (first | exact ex_refl _ | assumption | refine ex_drewL ?_ | refine ex_appR ?_ _ | refine ex_wx ?_ _ | refine ex_drew ?_ | refine ex_alloc ?_ _)) (by simp [go_sem]) (by simp [go_sem])).mono ?_); rintro e w3 ⟨rfl, X3, rfl⟩)); refine mixQ_mk (by (try show Ex _ _); with_reducible repeat (first | exact ex_refl _ | assumption | refine ex_drewL ?_ | refine ex_appR ?_ _ | refine ex_wx ?_ _ | refine ex_drew ?_ | refine ex_alloc ?_ _)) ?_))
    all_goals (try (first | (with_reducible refine wpForkJ_fork ?_ ?_) | (with_reducible refine wpForkJ_three ?_ ?_ ?_)))
    all_goals repeat (first | ((with_reducible refine wpForkJ_look ?_); go_big_quiet_step (fail); (try (with_reducible refine wpQuiet_nil ?_))) | (with_reducible refine wpForkJ_eff ?_) | ((with_reducible refine effT_F ?_ ?_); (focus rfl); go_simp) | ((with_reducible refine effT_T ?_ ?_); (focus rfl); (try dsimp only); go_wp2_with ((go_at_call 34; (with_reducible refine (HDg.out _ _ (by (try show Ex _ _); with_reducible repeat (first | exact ex_refl _ | assumption | refine ex_drewL ?_ | refine ex_appR ?_ _ | refine ex_wx ?_ _ | refine ex_drew ?_ | refine ex_alloc ?_ _)) (by simp [go_sem]) (by simp [go_sem])).mono ?_); rintro e w3 ⟨rfl, X3, rfl⟩)); refine mixQ_mk (by (try show Ex _ _); with_reducible repeat (first | exact ex_refl _ | assumption | refine ex_drewL ?_ | refine ex_appR ?_ _ | refine ex_wx ?_ _ | refine ex_drew ?_ | refine ex_alloc ?_ _)) ?_))
    all_goals (try (first | (with_reducible refine wpForkJ_fork ?_ ?_) | (with_reducible refine wpForkJ_three ?_ ?_ ?_)))
    all_goals repeat (first | ((with_reducible refine wpForkJ_look ?_); go_big_quiet_step (fail); (try (with_reducible refine wpQuiet_nil ?_))) | (with_reducible refine wpForkJ_eff ?_) | ((with_reducible refine effT_F ?_ ?_); (focus rfl); go_simp) | ((with_reducible refine effT_T ?_ ?_); (focus rfl); (try dsimp only); go_wp2_with ((go_at_call 34; (with_reducible refine (HDg.out _ _ (by (try show Ex _ _); with_reducible repeat (first | exact ex_refl _ | assumption | refine ex_drewL ?_ | refine ex_appR ?_ _ | refine ex_wx ?_ _ | refine ex_drew ?_ | refine ex_alloc ?_ _)) (by simp [go_sem]) (by simp [go_sem])).mono ?_); rintro e w3 ⟨rfl, X3, rfl⟩)); refine mixQ_mk (by (try show Ex _ _); with_reducible repeat (first | exact ex_refl _ | assumption | refine ex_drewL ?_ | refine ex_appR ?_ _ | refine ex_wx ?_ _ | refine ex_drew ?_ | refine ex_alloc ?_ _)) ?_))
    all_goals (with_reducible refine wpForkJ_nil ?_)
    all_goals
      refine midP_mk rfl (by kernel_rfl) ?_ (by simp [go_sem] <;> omega) (by (try show Ex _ _); with_reducible repeat (first | exact ex_refl _ | assumption | refine ex_drewL ?_ | refine ex_appR ?_ _ | refine ex_wx ?_ _ | refine ex_drew ?_ | refine ex_alloc ?_ _))
      apply mid_block (A := w) (hc := HCR.out)
      case k => with_reducible repeat (first | exact ex_refl _ | refine ex_wx ?_ _ | refine ex_drew ?_ | refine ex_alloc ?_ _)
      simp [go_sem]
  rintro a0 W6 hmid
  obtain ⟨gd, g8, ha0, hbd, hgd, hk6⟩ := hmid
  simp only [List.foldl] at ha0
  rw [g8] at ha0
  clear g8
  generalize a0.tmps.getD 44 undef = u44 at ha0
  generalize a0.tmps.getD 45 undef = u45 at ha0
  generalize a0.tmps.getD 46 undef = u46 at ha0
  generalize a0.tmps.getD 47 undef = u47 at ha0
  generalize a0.tmps.getD 48 undef = u48 at ha0
  generalize a0.tmps.getD 49 undef = u49 at ha0
  generalize a0.tmps.getD 50 undef = u50 at ha0
  generalize a0.tmps.getD 51 undef = u51 at ha0
  generalize a0.tmps.getD 52 undef = u52 at ha0
  generalize a0.tmps.getD 53 undef = u53 at ha0
  generalize a0.tmps.getD 54 undef = u54 at ha0
  generalize a0.tmps.getD 55 undef = u55 at ha0
  generalize a0.tmps.getD 56 undef = u56 at ha0
  generalize a0.tmps.getD 57 undef = u57 at ha0
  generalize a0.tmps.getD 58 undef = u58 at ha0
  generalize a0.tmps.getD 59 undef = u59 at ha0
  generalize a0.tmps.getD 60 undef = u60 at ha0
  generalize a0.tmps.getD 61 undef = u61 at ha0
  generalize a0.tmps.getD 62 undef = u62 at ha0
  generalize a0.tmps.getD 63 undef = u63 at ha0
  generalize a0.tmps.getD 64 undef = u64 at ha0
  generalize a0.tmps.getD 65 undef = u65 at ha0
  generalize a0.tmps.getD 66 undef = u66 at ha0
  generalize a0.tmps.getD 67 undef = u67 at ha0
  generalize a0.tmps.getD 68 undef = u68 at ha0
  subst ha0
  have hw6 : Ex w W6 := ex_trans (ex_alloc (ex_refl _) _) hk6
  have hz1 : (w.alloc (.cells (CR ahead) 62)).heap.size = w.heap.size + 1 := by rw [World.size_alloc]
  have hb6 := ex_block hk6 (heap_alloc_new w (.cells (CR ahead) 62))
  have hp6 := ex_block hw6 hp
  have zd := (Array.getElem?_eq_some_iff.1 hbd).1
  have z6 := (Array.getElem?_eq_some_iff.1 hb6).1
  have zp6 := (Array.getElem?_eq_some_iff.1 hp6).1
  have d4 := (block_cellsF (n := 9) hbd rfl).1
  have d3 := (block_cellF (o := 3) (v := U4 ahead.used) hb6 rfl).1
  have p9 := (block_cellF (o := 9) (v := PT L.p) hp6 rfl).1
  have pc : cellsN W6 p 0 9 = some (CR wl.c) := cellsN_some.2 ⟨rfl, fun j hj => by
    rw [Nat.zero_add, cell_of_row W6 p j _ _ _ hp6]
    match j, hj with
    | 0, _ => rfl
    | 1, _ => rfl
    | 2, _ => rfl
    | 3, _ => rfl
    | 4, _ => rfl
    | 5, _ => rfl
    | 6, _ => rfl
    | 7, _ => rfl
    | 8, _ => rfl⟩
  obtain ⟨P, hP⟩ : ∃ P : Nat → Prop, P = fun x => x = p ∨ L.own x := ⟨_, rfl⟩
  have hDk := HM.out.dk
  have nq : ∀ x, w.heap.size ≤ x → ¬ P x := fun x hx => by
    rw [hP]
    rintro (e | e)
    · omega
    · exact absurd (hDk.lt e) (by omega)
  have q6 : ¬ P w.heap.size := nq _ (Nat.le_refl _)
  have qd : ¬ P gd := nq _ (by omega)
  have HPq := Lib.hid hP
  clear hP nq
  obtain ⟨a9, ha9⟩ : ∃ q, 2 + (side * wl.c.n + ahead.used) = q := ⟨_, rfl⟩
  have ha9b : a9 ≤ 1000000 := by
    have : side * wl.c.n ≤ 1000 := by rcases (show side = 0 ∨ side = 1 by omega) with e | e <;> rw [e] <;> omega
    omega
  have HAt : Hid (∀ w', Calls Tryd.prog 42 #[.agg (CR wl.c), U4 side, U4 ahead.used] w' (Post w' (I (a9 : Int)))) := Lib.hid fun w' => by
    have := at_any wl.c side ahead.used h3 h1 h2 w'
    rwa [ha9] at this
  rw [ha9] at HR
  obtain ⟨cN, hcN⟩ : ∃ cN, nextC HW wl.c side ahead.used ahead.all ahead.mark b = cN := ⟨_, rfl⟩
  rw [hcN] at HR d4 hbd
  have HcN := Lib.hid hcN
  have hg2 : b.length ≤ 50000 := by rw [HN.out]; exact g2
  have HSh : Hid (∀ w', Ex W6 w' → Calls Tryd.prog 38 #[.slice a n c] w' (fun e w2 => ∃ v', e = .returned v' ∧ w2.ownsRow w'.heap.size 75 64 v' (sheetB b).length ((sheetB b).flatMap KK) ∧ ∃ X, w2 = wx w' X)) := Lib.hid fun w' kk => by
    have hv := HTy.out.slt.ex (ex_trans hw6 kk)
    rw [HN.out] at hv
    exact sheet_any hv hg2
  have HWs := Lib.hid fun w' (lv : Value) (h : lv.oneCell' = true) => writes_any p a9 lv h w'
  have HHf := Lib.hid fun w' => headf_any p cN w'
  have HEx : Hid (∀ W, Ex W6 W → ∀ k, k < W6.heap.size → ¬ P k → W.heap[k]? = W6.heap[k]?) := Lib.hid fun W kW k h1 _ => (ex_below kW).block k h1
  have hcNB : CmB cN := by
    rw [← HcN.out]
    exact ⟨by show wl.c.turn + 1 < _; omega, by show wl.c.n < _; omega, by show side < _; omega, by show ahead.used + secs b.length < _; rw [HN.out, HK.out]; omega, by show ahead.all + 1 < _; omega, HW_len _⟩
  have HAl : Hid (∀ (X : More) (lv : Value) (Z : Nat), (wx W6 X).ownsRow Z 75 64 lv (sheetB b).length ((sheetB b).flatMap KK) → W6.heap.size ≤ Z → Calls Tryd.prog 35 #[.slice (some ⟨(wx W6 X).heap.size + 1 + 1 + 1 + 1 + 1, 0, none⟩) 3 3] (ptW (wx W6 X) p a9 lv cN L.p) (PostPt p L (ptW (wx W6 X) p a9 lv cN L.p) cN wl.c (layD HW d a9 b cN) sv wl.br)) := Lib.hid fun X lv Z hx hz =>
    put_all G (ex_trans k0 hw6) (hDk.ex hw6) (show Ex W6 (wx W6 X) from ⟨X, rfl⟩) p a9 cN wl.c b sv lv wl.br hcNB hp6 HM.out.po (SlV1.of_own KK_len (by omega) hx) (fun g hg => ⟨Nat.le_trans hz (World.ownsRow.lt hx g hg).1, (World.ownsRow.lt hx g hg).2⟩) hg2 ha9b hops hq ho
  have HPo : Hid (∀ (X : More) (lv : Value) (L2 : Loc) (w5 : World), Wv p L (ptW (wx W6 X) p a9 lv cN L.p) L2 w5 → ∀ k, k < W6.heap.size → ¬ P k → w5.heap[k]? = W6.heap[k]?) := Lib.hid fun X lv L2 w5 hv k h1 h2 => by
    have kW : Ex W6 (ptW (wx W6 X) p a9 lv cN L.p) := ex_trans ⟨X, rfl⟩ (pt_blocks (wx W6 X) p a9 lv cN L.p).1
    rw [HPq.out] at h2
    exact (hv.fr.same k (Nat.lt_of_lt_of_le h1 (ex_size kW)) h2).trans ((ex_below kW).block k h1)
  have HVw : Hid (∀ (X : More) (lv : Value) (L2 : Loc) (w5 : World), Wv p L (ptW (wx W6 X) p a9 lv cN L.p) L2 w5 → Wv p L W6 L2 w5) := Lib.hid fun X lv L2 w5 hv =>
    (Wv.ofDv (Dv.ofEx (ex_trans (show Ex W6 (wx W6 X) from ⟨X, rfl⟩) (pt_blocks (wx W6 X) p a9 lv cN L.p).1))).trans hv
  unfold ptW valF at HAl HPo HVw
  simp only [wx_size] at HAl HPo HVw
  unfold valF at HWs HHf
  clear HDg HMk HCR HSc c0 c1 c9 c11 hcN ha9
  go_wp2
  go_simp
  refine wp_mid (fun a0 a' w' => midQ p L W6 (layD HW d a9 b cN) cN wl.c sv wl.br [69, 70, 71, 72, 73, 74, 75, 76, 77, 78, 79, 80, 81, 82, 83, 84, 85, 86, 87, 88, 89, 90, 11] a0 a' w') ?_ ?_
  · refine wp_region_forkH (fun w' => ∃ X, w' = kp W6 P X) (.look 0 (.look 1 (.look 2 (.look 3 (.look 5 (.look 6 (.look 7 (.look 9 (.look 12 (.look 13 (.look 14 (.look 17 (.look 18 (.fork 4 (.fork 8 (.fork 10 (.fork 11 (.fork 15 (.look 16 (.eff 19 (.eff 20 (.eff 21 (.look 22 .done))))) 19 (.eff 15 (.look 16 (.eff 20 (.eff 21 (.look 22 .done)))))) 15 (.look 16 (.eff 11 (.eff 19 (.eff 20 (.eff 21 (.look 22 .done))))))) 15 (.look 16 (.eff 10 (.eff 11 (.eff 19 (.eff 20 (.eff 21 (.look 22 .done)))))))) 15 (.look 16 (.eff 8 (.eff 10 (.eff 11 (.eff 19 (.eff 20 (.eff 21 (.look 22 .done))))))))) 15 (.look 16 (.eff 4 (.eff 8 (.eff 10 (.eff 11 (.eff 19 (.eff 20 (.eff 21 (.look 22 .done))))))))))))))))))))))) (⟨_, kp_of (fun _ _ _ => rfl)⟩) (by kernel_rfl) (by kernel_rfl) (fun _ _ d _ _ h => by cases d <;> exact h) ?_
    simp only [Fk.ops, nth]
    repeat (first | ((with_reducible refine wpForkH_look ?_); go_big_quiet_step (fail); (try (with_reducible refine wpQuiet_nil ?_))) | (with_reducible refine wpForkH_eff ?_) | ((with_reducible refine effH_F ?_ ?_); (focus rfl); go_simp) | ((with_reducible refine effH_T ?_ ?_); (focus rfl); (try dsimp only); go_wp2_with (first | (go_at_call 42; (with_reducible refine (HAt.out _).mono ?_); rintro e w7 ⟨rfl, X7, rfl⟩) | (go_at_call 38; (with_reducible refine (HSh.out _ (by (try show Ex _ _); with_reducible repeat (first | exact ex_refl _ | assumption | refine ex_drewL ?_ | refine ex_appR ?_ _ | refine ex_wx ?_ _ | refine ex_drew ?_ | refine ex_alloc ?_ _))).mono ?_); rintro e w8 ⟨lv, rfl, hlv, X8, rfl⟩; obtain ⟨al, cl, rfl, _⟩ := own_form9 hlv; replace hlv := Lib.hid hlv) | (go_at_call 36; (with_reducible refine (HWs.out _ _ rfl).mono ?_); rintro e w4 ⟨rfl, rfl⟩) | (go_at_call 39; (with_reducible refine (HHf.out _).mono ?_); rintro e w4 ⟨rfl, rfl⟩) | (go_at_call 35; simp only [← More.app_len]; (refine (HAl.out _ _ _ (by first | exact hlv.out | (rw [← wx_wx]; exact hlv.out)) (by first | exact Nat.le_refl _ | exact ex_size ⟨_, rfl⟩)).mono ?_); rintro e w5 ⟨L2, rfl, hD5, hV5, hp5⟩; replace hD5 := Lib.hid hD5; replace hV5 := Lib.hid hV5; replace hp5 := Lib.hid hp5)); (first | done | refine mixQH_mk (⟨_, kp_of (by first | exact HPo.out _ _ _ _ hV5.out | exact HEx.out _ (by (try show Ex _ _); with_reducible repeat (first | exact ex_refl _ | assumption | refine ex_drewL ?_ | refine ex_appR ?_ _ | refine ex_wx ?_ _ | refine ex_drew ?_ | refine ex_alloc ?_ _)))⟩) ?_)))
    all_goals (try (with_reducible refine wpForkH_fork ?_ ?_))
    all_goals repeat (first | ((with_reducible refine wpForkH_look ?_); go_big_quiet_step (fail); (try (with_reducible refine wpQuiet_nil ?_))) | (with_reducible refine wpForkH_eff ?_) | ((with_reducible refine effH_F ?_ ?_); (focus rfl); go_simp) | ((with_reducible refine effH_T ?_ ?_); (focus rfl); (try dsimp only); go_wp2_with (first | (go_at_call 42; (with_reducible refine (HAt.out _).mono ?_); rintro e w7 ⟨rfl, X7, rfl⟩) | (go_at_call 38; (with_reducible refine (HSh.out _ (by (try show Ex _ _); with_reducible repeat (first | exact ex_refl _ | assumption | refine ex_drewL ?_ | refine ex_appR ?_ _ | refine ex_wx ?_ _ | refine ex_drew ?_ | refine ex_alloc ?_ _))).mono ?_); rintro e w8 ⟨lv, rfl, hlv, X8, rfl⟩; obtain ⟨al, cl, rfl, _⟩ := own_form9 hlv; replace hlv := Lib.hid hlv) | (go_at_call 36; (with_reducible refine (HWs.out _ _ rfl).mono ?_); rintro e w4 ⟨rfl, rfl⟩) | (go_at_call 39; (with_reducible refine (HHf.out _).mono ?_); rintro e w4 ⟨rfl, rfl⟩) | (go_at_call 35; simp only [← More.app_len]; (refine (HAl.out _ _ _ (by first | exact hlv.out | (rw [← wx_wx]; exact hlv.out)) (by first | exact Nat.le_refl _ | exact ex_size ⟨_, rfl⟩)).mono ?_); rintro e w5 ⟨L2, rfl, hD5, hV5, hp5⟩; replace hD5 := Lib.hid hD5; replace hV5 := Lib.hid hV5; replace hp5 := Lib.hid hp5)); (first | done | refine mixQH_mk (⟨_, kp_of (by first | exact HPo.out _ _ _ _ hV5.out | exact HEx.out _ (by (try show Ex _ _); with_reducible repeat (first | exact ex_refl _ | assumption | refine ex_drewL ?_ | refine ex_appR ?_ _ | refine ex_wx ?_ _ | refine ex_drew ?_ | refine ex_alloc ?_ _)))⟩) ?_)))
    all_goals (try (with_reducible refine wpForkH_fork ?_ ?_))
    all_goals repeat (first | ((with_reducible refine wpForkH_look ?_); go_big_quiet_step (fail); (try (with_reducible refine wpQuiet_nil ?_))) | (with_reducible refine wpForkH_eff ?_) | ((with_reducible refine effH_F ?_ ?_); (focus rfl); go_simp) | ((with_reducible refine effH_T ?_ ?_); (focus rfl); (try dsimp only); go_wp2_with (first | (go_at_call 42; (with_reducible refine (HAt.out _).mono ?_); rintro e w7 ⟨rfl, X7, rfl⟩) | (go_at_call 38; (with_reducible refine (HSh.out _ (by (try show Ex _ _); with_reducible repeat (first | exact ex_refl _ | assumption | refine ex_drewL ?_ | refine ex_appR ?_ _ | refine ex_wx ?_ _ | refine ex_drew ?_ | refine ex_alloc ?_ _))).mono ?_); rintro e w8 ⟨lv, rfl, hlv, X8, rfl⟩; obtain ⟨al, cl, rfl, _⟩ := own_form9 hlv; replace hlv := Lib.hid hlv) | (go_at_call 36; (with_reducible refine (HWs.out _ _ rfl).mono ?_); rintro e w4 ⟨rfl, rfl⟩) | (go_at_call 39; (with_reducible refine (HHf.out _).mono ?_); rintro e w4 ⟨rfl, rfl⟩) | (go_at_call 35; simp only [← More.app_len]; (refine (HAl.out _ _ _ (by first | exact hlv.out | (rw [← wx_wx]; exact hlv.out)) (by first | exact Nat.le_refl _ | exact ex_size ⟨_, rfl⟩)).mono ?_); rintro e w5 ⟨L2, rfl, hD5, hV5, hp5⟩; replace hD5 := Lib.hid hD5; replace hV5 := Lib.hid hV5; replace hp5 := Lib.hid hp5)); (first | done | refine mixQH_mk (⟨_, kp_of (by first | exact HPo.out _ _ _ _ hV5.out | exact HEx.out _ (by (try show Ex _ _); with_reducible repeat (first | exact ex_refl _ | assumption | refine ex_drewL ?_ | refine ex_appR ?_ _ | refine ex_wx ?_ _ | refine ex_drew ?_ | refine ex_alloc ?_ _)))⟩) ?_)))
    all_goals (try (with_reducible refine wpForkH_fork ?_ ?_))
    all_goals repeat (first | ((with_reducible refine wpForkH_look ?_); go_big_quiet_step (fail); (try (with_reducible refine wpQuiet_nil ?_))) | (with_reducible refine wpForkH_eff ?_) | ((with_reducible refine effH_F ?_ ?_); (focus rfl); go_simp) | ((with_reducible refine effH_T ?_ ?_); (focus rfl); (try dsimp only); go_wp2_with (first | (go_at_call 42; (with_reducible refine (HAt.out _).mono ?_); rintro e w7 ⟨rfl, X7, rfl⟩) | (go_at_call 38; (with_reducible refine (HSh.out _ (by (try show Ex _ _); with_reducible repeat (first | exact ex_refl _ | assumption | refine ex_drewL ?_ | refine ex_appR ?_ _ | refine ex_wx ?_ _ | refine ex_drew ?_ | refine ex_alloc ?_ _))).mono ?_); rintro e w8 ⟨lv, rfl, hlv, X8, rfl⟩; obtain ⟨al, cl, rfl, _⟩ := own_form9 hlv; replace hlv := Lib.hid hlv) | (go_at_call 36; (with_reducible refine (HWs.out _ _ rfl).mono ?_); rintro e w4 ⟨rfl, rfl⟩) | (go_at_call 39; (with_reducible refine (HHf.out _).mono ?_); rintro e w4 ⟨rfl, rfl⟩) | (go_at_call 35; simp only [← More.app_len]; (refine (HAl.out _ _ _ (by first | exact hlv.out | (rw [← wx_wx]; exact hlv.out)) (by first | exact Nat.le_refl _ | exact ex_size ⟨_, rfl⟩)).mono ?_); rintro e w5 ⟨L2, rfl, hD5, hV5, hp5⟩; replace hD5 := Lib.hid hD5; replace hV5 := Lib.hid hV5; replace hp5 := Lib.hid hp5)); (first | done | refine mixQH_mk (⟨_, kp_of (by first | exact HPo.out _ _ _ _ hV5.out | exact HEx.out _ (by (try show Ex _ _); with_reducible repeat (first | exact ex_refl _ | assumption | refine ex_drewL ?_ | refine ex_appR ?_ _ | refine ex_wx ?_ _ | refine ex_drew ?_ | refine ex_alloc ?_ _)))⟩) ?_)))
    all_goals (try (with_reducible refine wpForkH_fork ?_ ?_))
    all_goals repeat (first | ((with_reducible refine wpForkH_look ?_); go_big_quiet_step (fail); (try (with_reducible refine wpQuiet_nil ?_))) | (with_reducible refine wpForkH_eff ?_) | ((with_reducible refine effH_F ?_ ?_); (focus rfl); go_simp) | ((with_reducible refine effH_T ?_ ?_); (focus rfl); (try dsimp only); go_wp2_with (first | (go_at_call 42; (with_reducible refine (HAt.out _).mono ?_); rintro e w7 ⟨rfl, X7, rfl⟩) | (go_at_call 38; (with_reducible refine (HSh.out _ (by (try show Ex _ _); with_reducible repeat (first | exact ex_refl _ | assumption | refine ex_drewL ?_ | refine ex_appR ?_ _ | refine ex_wx ?_ _ | refine ex_drew ?_ | refine ex_alloc ?_ _))).mono ?_); rintro e w8 ⟨lv, rfl, hlv, X8, rfl⟩; obtain ⟨al, cl, rfl, _⟩ := own_form9 hlv; replace hlv := Lib.hid hlv) | (go_at_call 36; (with_reducible refine (HWs.out _ _ rfl).mono ?_); rintro e w4 ⟨rfl, rfl⟩) | (go_at_call 39; (with_reducible refine (HHf.out _).mono ?_); rintro e w4 ⟨rfl, rfl⟩) | (go_at_call 35; simp only [← More.app_len]; (refine (HAl.out _ _ _ (by first | exact hlv.out | (rw [← wx_wx]; exact hlv.out)) (by first | exact Nat.le_refl _ | exact ex_size ⟨_, rfl⟩)).mono ?_); rintro e w5 ⟨L2, rfl, hD5, hV5, hp5⟩; replace hD5 := Lib.hid hD5; replace hV5 := Lib.hid hV5; replace hp5 := Lib.hid hp5)); (first | done | refine mixQH_mk (⟨_, kp_of (by first | exact HPo.out _ _ _ _ hV5.out | exact HEx.out _ (by (try show Ex _ _); with_reducible repeat (first | exact ex_refl _ | assumption | refine ex_drewL ?_ | refine ex_appR ?_ _ | refine ex_wx ?_ _ | refine ex_drew ?_ | refine ex_alloc ?_ _)))⟩) ?_)))
    all_goals (try (with_reducible refine wpForkH_fork ?_ ?_))
    all_goals repeat (first | ((with_reducible refine wpForkH_look ?_); go_big_quiet_step (fail); (try (with_reducible refine wpQuiet_nil ?_))) | (with_reducible refine wpForkH_eff ?_) | ((with_reducible refine effH_F ?_ ?_); (focus rfl); go_simp) | ((with_reducible refine effH_T ?_ ?_); (focus rfl); (try dsimp only); go_wp2_with (first | (go_at_call 42; (with_reducible refine (HAt.out _).mono ?_); rintro e w7 ⟨rfl, X7, rfl⟩) | (go_at_call 38; (with_reducible refine (HSh.out _ (by (try show Ex _ _); with_reducible repeat (first | exact ex_refl _ | assumption | refine ex_drewL ?_ | refine ex_appR ?_ _ | refine ex_wx ?_ _ | refine ex_drew ?_ | refine ex_alloc ?_ _))).mono ?_); rintro e w8 ⟨lv, rfl, hlv, X8, rfl⟩; obtain ⟨al, cl, rfl, _⟩ := own_form9 hlv; replace hlv := Lib.hid hlv) | (go_at_call 36; (with_reducible refine (HWs.out _ _ rfl).mono ?_); rintro e w4 ⟨rfl, rfl⟩) | (go_at_call 39; (with_reducible refine (HHf.out _).mono ?_); rintro e w4 ⟨rfl, rfl⟩) | (go_at_call 35; simp only [← More.app_len]; (refine (HAl.out _ _ _ (by first | exact hlv.out | (rw [← wx_wx]; exact hlv.out)) (by first | exact Nat.le_refl _ | exact ex_size ⟨_, rfl⟩)).mono ?_); rintro e w5 ⟨L2, rfl, hD5, hV5, hp5⟩; replace hD5 := Lib.hid hD5; replace hV5 := Lib.hid hV5; replace hp5 := Lib.hid hp5)); (first | done | refine mixQH_mk (⟨_, kp_of (by first | exact HPo.out _ _ _ _ hV5.out | exact HEx.out _ (by (try show Ex _ _); with_reducible repeat (first | exact ex_refl _ | assumption | refine ex_drewL ?_ | refine ex_appR ?_ _ | refine ex_wx ?_ _ | refine ex_drew ?_ | refine ex_alloc ?_ _)))⟩) ?_)))
    all_goals (with_reducible refine wpForkH_nil ?_)
    all_goals refine midQ_mk rfl (by kernel_rfl) hD5.out (HVw.out _ _ _ _ hV5.out) hp5.out
  rintro a0 W7 ⟨L2, g8, ha0, hD5, hV5, hp5⟩
  simp only [List.foldl] at ha0
  rw [g8] at ha0
  clear g8
  generalize a0.tmps.getD 69 undef = u69 at ha0
  generalize a0.tmps.getD 70 undef = u70 at ha0
  generalize a0.tmps.getD 71 undef = u71 at ha0
  generalize a0.tmps.getD 72 undef = u72 at ha0
  generalize a0.tmps.getD 73 undef = u73 at ha0
  generalize a0.tmps.getD 74 undef = u74 at ha0
  generalize a0.tmps.getD 75 undef = u75 at ha0
  generalize a0.tmps.getD 76 undef = u76 at ha0
  generalize a0.tmps.getD 77 undef = u77 at ha0
  generalize a0.tmps.getD 78 undef = u78 at ha0
  generalize a0.tmps.getD 79 undef = u79 at ha0
  generalize a0.tmps.getD 80 undef = u80 at ha0
  generalize a0.tmps.getD 81 undef = u81 at ha0
  generalize a0.tmps.getD 82 undef = u82 at ha0
  generalize a0.tmps.getD 83 undef = u83 at ha0
  generalize a0.tmps.getD 84 undef = u84 at ha0
  generalize a0.tmps.getD 85 undef = u85 at ha0
  generalize a0.tmps.getD 86 undef = u86 at ha0
  generalize a0.tmps.getD 87 undef = u87 at ha0
  generalize a0.tmps.getD 88 undef = u88 at ha0
  generalize a0.tmps.getD 89 undef = u89 at ha0
  generalize a0.tmps.getD 90 undef = u90 at ha0
  subst ha0
  have z7 := (Array.getElem?_eq_some_iff.1 hp5).1
  obtain ⟨r, hr⟩ : ∃ r, layD HW d a9 b cN = r := ⟨_, rfl⟩
  rw [hr] at hD5 hp5 ⊢
  have HRr := Lib.hid hr
  obtain ⟨d1, er⟩ := r
  dsimp only at hD5 hp5 ⊢
  have HP5 := Lib.hid hp5
  have HV5 := Lib.hid hV5
  have HD5 := Lib.hid hD5
  clear hr hp5 hV5 hD5 HAl HPo HVw HWs HHf HSh HAt HEx d3 d4 p9 pc
  have n2p : ¬ L2.own p := fun e => (HV5.out.own e).elim HM.out.po (fun e2 => by omega)
  have s11 := block_cellF (o := 11) (v := .bool wl.br) HP5.out (by split <;> rfl)
  rw [g1] at s11
  obtain ⟨s11, f11⟩ := s11
  have hb7 := (HV5.out.fr.same _ z6 (fun e => q6 (by rw [HPq.out]; exact e))).trans hb6
  have z7w := (Array.getElem?_eq_some_iff.1 hb7).1
  have HB7 := Lib.hid hb7
  have hVw := Lib.hid ((Wv.ofDv (p := p) (Dv.ofEx (L := L) hw6)).trans HV5.out)
  clear hb7
  have hky : Hid (∀ v, Ky w (W7.setCell ⟨p, 11, none⟩ v)) := Lib.hid fun v => Ky.trans (hVw.out.ky hDk hp) (Ky.setP HP5.out 11 v)
  by_cases he : er = 0
  · subst he
    have HP6 := HP5.out
    rw [if_pos rfl] at HP6
    replace HP6 := Lib.hid HP6
    go_wp2
    have hcl := block_cellF (o := 10) (v := sv) HP6.out rfl
    obtain ⟨A, hA⟩ : ∃ A, W7.setCell ⟨p, 11, none⟩ (.bool false) = A := ⟨_, rfl⟩
    have kyA : Ky w A := by rw [← hA]; exact hky.out _
    have hpA : A.heap[p]? = some (.cells (WR cN L.p sv false) 64 (0, 0)) := by
      rw [← hA, setCell_block (.bool false) HP6.out]; rfl
    have hbA : A.heap[w.heap.size]? = some (.cells (CR ahead) 62 (0, 0)) := by
      rw [← hA]; exact (setCell_heap _ (by omega)).trans HB7.out
    have hdA : DkAt A L2 d1 := by rw [← hA]; exact HD5.out.setP n2p 11 _
    have hvA : Wv p L w L2 A := by rw [← hA]; exact hVw.out.set 11 _
    have hSA := SlSh.ky Hsv.out kyA
    have hTA := TyB.ky HTy.out kyA
    rw [hA]
    obtain ⟨sa, sc, rfl, sl1, sl2, _, _⟩ := Hsv.out.out
    obtain ⟨gs, os, rfl, hgs, _⟩ := hSA.at (j := 0) (by omega)
    obtain ⟨olds, ol1, ol2, ol3⟩ := hSA.olds h4
    have c10 := (block_cellF (o := 10) (v := .slice (some ⟨gs, os, none⟩) wl.sh.length sc) hpA rfl).1
    have f10 := (block_cellF (o := 10) (v := .slice (some ⟨gs, os, none⟩) wl.sh.length sc) hpA rfl).2
    have b4 := (block_cellF (o := 4) (v := U4 ahead.all) hbA rfl).1
    have zpA := (Array.getElem?_eq_some_iff.1 hpA).1
    have zbA := (Array.getElem?_eq_some_iff.1 hbA).1
    have HCl : Hid (∀ w', Ex A w' → Calls Tryd.prog 46 #[.slice a n c] w' (PostTb w' b)) := Lib.hid fun w' k => by
      have := cloneW_any (hTA.slt.ex k) hg2
      rw [HN.out] at this; exact this
    have HOl : Hid (∀ w', Ex A w' → ∀ (bb : Addr), some (⟨gs, os, none⟩ : Addr) = some bb → ∀ (j : Nat) (u : Value), olds[j]? = some u → w'.cell? (bb.add j) = some u) := Lib.hid fun w' k bb e j u hj => by
      cases e
      have h9 := ol2 j u hj
      rw [Addr.add_lit] at h9 ⊢
      obtain ⟨X, rfl⟩ := k
      rw [wx_cell _ _ _ hgs]; exact h9
    have q10 : (ahead.all : Int) ≤ sc := by omega
    have q11 : ahead.all ≤ sc := by omega
    unfold maxLen at sl2
    have HSA := Lib.hid hSA
    have HHp := Lib.hid hpA
    have HDA := Lib.hid hdA
    have HVA := Lib.hid hvA
    have Hol1 := Lib.hid ol1
    have Hol3 := Lib.hid ol3
    have nwp : w.heap.size ≠ p := by omega
    clear hA hSA hTA kyA hpA hbA hdA hvA ol1 ol2 ol3 HP6 HP5 HD5 HV5 hVw hky HB7 hcl s11 f11 z7 z7w hp6 hb6 hbd zd z6 zp6 hp hw6 zp sl1
    obtain ⟨P1, hP1⟩ : ∃ P1 : Nat → Prop, P1 = fun x => x = p := ⟨_, rfl⟩
    have nw1 : ¬ P1 w.heap.size := by rw [hP1]; exact nwp
    have HP1 : Hid (∀ x, ¬ P1 x → x ≠ p) := Lib.hid (by rw [hP1]; exact fun x hx => hx)
    clear hP1
    refine wp_region_forkH (fun w' => ∃ X, w' = kp A P1 X) (.look 0 (.look 1 (.look 2 (.look 3 (.look 5 (.look 6 (.look 7 (.look 8 (.look 10 (.fork 4 (.look 9 (.eff 11 (.eff 12 (.eff 13 (.look 14 (.look 15 (.eff 16 .done))))))) 11 (.fork 4 (.look 9 (.eff 12 (.eff 13 (.look 14 (.look 15 (.eff 16 .done)))))) 12 (.eff 4 (.look 9 (.eff 13 (.look 14 (.look 15 (.eff 16 .done))))))))))))))))) (⟨_, kp_of (fun _ _ _ => rfl)⟩) (by kernel_rfl) (by kernel_rfl) (fun _ _ d _ _ h => by cases d <;> exact h) ?_
    simp only [Fk.ops, nth]
    repeat (first | ((with_reducible refine wpForkH_look ?_); go_big_quiet_step (fail); (try (with_reducible refine wpQuiet_nil ?_))) | (with_reducible refine wpForkH_eff ?_) | ((with_reducible refine effH_F ?_ ?_); (focus rfl); go_simp) | ((with_reducible refine effH_T ?_ ?_); (focus rfl); (try dsimp only); go_wp2_with (first | (go_at_call 46; (with_reducible refine (HCl.out _ (by (try show Ex _ _); with_reducible repeat (first | exact ex_refl _ | assumption | refine ex_drewL ?_ | refine ex_appR ?_ _ | refine ex_wx ?_ _ | refine ex_drew ?_ | refine ex_alloc ?_ _))).mono ?_); rintro e w7 ⟨lv, rfl, hlv, X7, rfl⟩; obtain ⟨al, cl, rfl, _⟩ := hlv.out; replace hlv := Lib.hid hlv) | (at_builtin; refine wpAppSh (u := .slice al b.length cl) (ao := some ⟨gs, os, none⟩) (n := ahead.all) (olds := olds) _ _ rfl rfl rfl (fun e => by cases e) Hol1.out (HOl.out _ (by (try show Ex _ _); with_reducible repeat (first | exact ex_refl _ | assumption | refine ex_drewL ?_ | refine ex_appR ?_ _ | refine ex_wx ?_ _ | refine ex_drew ?_ | refine ex_alloc ?_ _))) rfl (by simp [go_sem]) rfl (by omega) (fun v9 w9 hown hX => ?_); obtain ⟨X9, rfl⟩ := hX; obtain ⟨a9', c9', rfl, _⟩ := own_form9 hown; replace hown := Lib.hid hown)); (first | done | refine mixQH_mk (⟨_, kp_of (by intro x hx hp9; first | (refine (ex_below (?_ : Ex A _)).block x hx; (with_reducible repeat (first | exact ex_refl _ | assumption | refine ex_drewL ?_ | refine ex_appR ?_ _ | refine ex_wx ?_ _ | refine ex_drew ?_ | refine ex_alloc ?_ _)); done) | (refine ((ex_below (?_ : Ex (A.setCell ⟨p, 10, none⟩ (.slice a9' (ahead.all + 1) c9')) _)).block x (by simpa [World.setCell] using hx)).trans (setCell_heap _ (HP1.out x hp9)); (with_reducible repeat (first | exact ex_refl _ | assumption | refine ex_drewL ?_ | refine ex_appR ?_ _ | refine ex_wx ?_ _ | refine ex_drew ?_ | refine ex_alloc ?_ _)); done))⟩) ?_)))
    all_goals (try (with_reducible refine wpForkH_fork ?_ ?_))
    all_goals repeat (first | ((with_reducible refine wpForkH_look ?_); go_big_quiet_step (fail); (try (with_reducible refine wpQuiet_nil ?_))) | (with_reducible refine wpForkH_eff ?_) | ((with_reducible refine effH_F ?_ ?_); (focus rfl); go_simp) | ((with_reducible refine effH_T ?_ ?_); (focus rfl); (try dsimp only); go_wp2_with (first | (go_at_call 46; (with_reducible refine (HCl.out _ (by (try show Ex _ _); with_reducible repeat (first | exact ex_refl _ | assumption | refine ex_drewL ?_ | refine ex_appR ?_ _ | refine ex_wx ?_ _ | refine ex_drew ?_ | refine ex_alloc ?_ _))).mono ?_); rintro e w7 ⟨lv, rfl, hlv, X7, rfl⟩; obtain ⟨al, cl, rfl, _⟩ := hlv.out; replace hlv := Lib.hid hlv) | (at_builtin; refine wpAppSh (u := .slice al b.length cl) (ao := some ⟨gs, os, none⟩) (n := ahead.all) (olds := olds) _ _ rfl rfl rfl (fun e => by cases e) Hol1.out (HOl.out _ (by (try show Ex _ _); with_reducible repeat (first | exact ex_refl _ | assumption | refine ex_drewL ?_ | refine ex_appR ?_ _ | refine ex_wx ?_ _ | refine ex_drew ?_ | refine ex_alloc ?_ _))) rfl (by simp [go_sem]) rfl (by omega) (fun v9 w9 hown hX => ?_); obtain ⟨X9, rfl⟩ := hX; obtain ⟨a9', c9', rfl, _⟩ := own_form9 hown; replace hown := Lib.hid hown)); (first | done | refine mixQH_mk (⟨_, kp_of (by intro x hx hp9; first | (refine (ex_below (?_ : Ex A _)).block x hx; (with_reducible repeat (first | exact ex_refl _ | assumption | refine ex_drewL ?_ | refine ex_appR ?_ _ | refine ex_wx ?_ _ | refine ex_drew ?_ | refine ex_alloc ?_ _)); done) | (refine ((ex_below (?_ : Ex (A.setCell ⟨p, 10, none⟩ (.slice a9' (ahead.all + 1) c9')) _)).block x (by simpa [World.setCell] using hx)).trans (setCell_heap _ (HP1.out x hp9)); (with_reducible repeat (first | exact ex_refl _ | assumption | refine ex_drewL ?_ | refine ex_appR ?_ _ | refine ex_wx ?_ _ | refine ex_drew ?_ | refine ex_alloc ?_ _)); done))⟩) ?_)))
    all_goals (try (with_reducible refine wpForkH_fork ?_ ?_))
    all_goals repeat (first | ((with_reducible refine wpForkH_look ?_); go_big_quiet_step (fail); (try (with_reducible refine wpQuiet_nil ?_))) | (with_reducible refine wpForkH_eff ?_) | ((with_reducible refine effH_F ?_ ?_); (focus rfl); go_simp) | ((with_reducible refine effH_T ?_ ?_); (focus rfl); (try dsimp only); go_wp2_with (first | (go_at_call 46; (with_reducible refine (HCl.out _ (by (try show Ex _ _); with_reducible repeat (first | exact ex_refl _ | assumption | refine ex_drewL ?_ | refine ex_appR ?_ _ | refine ex_wx ?_ _ | refine ex_drew ?_ | refine ex_alloc ?_ _))).mono ?_); rintro e w7 ⟨lv, rfl, hlv, X7, rfl⟩; obtain ⟨al, cl, rfl, _⟩ := hlv.out; replace hlv := Lib.hid hlv) | (at_builtin; refine wpAppSh (u := .slice al b.length cl) (ao := some ⟨gs, os, none⟩) (n := ahead.all) (olds := olds) _ _ rfl rfl rfl (fun e => by cases e) Hol1.out (HOl.out _ (by (try show Ex _ _); with_reducible repeat (first | exact ex_refl _ | assumption | refine ex_drewL ?_ | refine ex_appR ?_ _ | refine ex_wx ?_ _ | refine ex_drew ?_ | refine ex_alloc ?_ _))) rfl (by simp [go_sem]) rfl (by omega) (fun v9 w9 hown hX => ?_); obtain ⟨X9, rfl⟩ := hX; obtain ⟨a9', c9', rfl, _⟩ := own_form9 hown; replace hown := Lib.hid hown)); (first | done | refine mixQH_mk (⟨_, kp_of (by intro x hx hp9; first | (refine (ex_below (?_ : Ex A _)).block x hx; (with_reducible repeat (first | exact ex_refl _ | assumption | refine ex_drewL ?_ | refine ex_appR ?_ _ | refine ex_wx ?_ _ | refine ex_drew ?_ | refine ex_alloc ?_ _)); done) | (refine ((ex_below (?_ : Ex (A.setCell ⟨p, 10, none⟩ (.slice a9' (ahead.all + 1) c9')) _)).block x (by simpa [World.setCell] using hx)).trans (setCell_heap _ (HP1.out x hp9)); (with_reducible repeat (first | exact ex_refl _ | assumption | refine ex_drewL ?_ | refine ex_appR ?_ _ | refine ex_wx ?_ _ | refine ex_drew ?_ | refine ex_alloc ?_ _)); done))⟩) ?_)))
    all_goals (with_reducible refine wpForkH_nil ?_)
    all_goals
      go_wp2
      go_ret
      rw [HR.out, HRr.out, if_pos rfl]
      obtain ⟨q1, q2⟩ := put_fin HDA.out HVA.out HHp.out n2p (show Ex A _ from (by (try show Ex _ _); with_reducible repeat (first | exact ex_refl _ | assumption | refine ex_drewL ?_ | refine ex_appR ?_ _ | refine ex_wx ?_ _ | refine ex_drew ?_ | refine ex_alloc ?_ _))) hown.out h4 Hol1.out Hol3.out (hlv.out.ky (Ky.ex (show Ex (wx A X7) _ from (by (try show Ex _ _); with_reducible repeat (first | exact ex_refl _ | assumption | refine ex_drewL ?_ | refine ex_appR ?_ _ | refine ex_wx ?_ _ | refine ex_drew ?_ | refine ex_alloc ?_ _))))) (ex_refl _)
      exact ⟨L2, rfl, (congrArg (fun W => LgM W p L2 d1 ⟨cN, wl.sh.take ahead.all ++ [b], false⟩) (by simp [go_sem, zpA])).mp q1, (congrArg (fun W => Wv p L w L2 W) (by simp [go_sem, zpA])).mp q2⟩
  · have he2 : (er == 0) = false := beq_eq_false_iff_ne.2 he
    have he3 : (er != 0) = true := by simp [he]
    go_wp2
    go_ret
    rw [HR.out, HRr.out, if_neg he]
    have h8 := setCell_block (o := 11) (.bool true) HP5.out
    rw [if_neg he, ← HV5.out.pp] at h8
    exact ⟨L2, rfl, ⟨HD5.out.setP n2p 11 _, ⟨sv, h8, SlSh.ky Hsv.out (hky.out _)⟩, n2p⟩, hVw.out.set 11 _⟩
end Go.Proofs.YtabjamkkhlbajaaDoor
