import Derived.Test.YtabjamkkhlbajaaDoorMWlE
import Derived.Test.YtabjamkkhlbajaaDoorMDraw
import Derived.ArgAppend

/- Readers of bytes: what is read where enough is left. -/
set_option linter.unusedSimpArgs false
set_option linter.unusedVariables false
set_option linter.unnecessarySimpa false
set_option maxRecDepth 20000
namespace Go.Proofs.YtabjamkkhlbajaaDoor
open Go.RowKit
theorem bv64w (n : Nat) : BitVec.ofInt 64 (n : Int) = BitVec.ofNat 64 n := by
  apply BitVec.eq_of_toNat_eq
  rw [BitVec.toNat_ofInt, BitVec.toNat_ofNat]
  omega
theorem wrap_u64w (n : Nat) (h : n < 18446744073709551616) : IntKind.u64.wrap (n : Int) = (n : Int) := by rw [IntKind.wrap_u64]; omega
theorem or256 (x b : Nat) (hb : b < 256) (hx : 256 * x + b < 18446744073709551616) : bits BinOp.or IntKind.u64 ((x : Int) * 256) (b : Int) = ((256 * x + b : Nat) : Int) := by
  simp only [bits]
  rw [show IntKind.u64.bits = 64 from rfl, show (x : Int) * 256 = ((x * 256 : Nat) : Int) by simp, bv64w, bv64w, wrap_u64w _ (BitVec.isLt _)]
  congr 1
  rw [BitVec.toNat_or, BitVec.toNat_ofNat, BitVec.toNat_ofNat, Nat.mod_eq_of_lt (by omega), Nat.mod_eq_of_lt (by omega)]
  have := Nat.shiftLeft_add_eq_or_of_lt (show b < 2 ^ 8 by omega) x
  rw [Nat.shiftLeft_eq] at this
  rw [show (2 : Nat) ^ 8 = 256 from rfl] at this
  omega
/-- A reader of the call's own, so far without an error. -/
structure RdW (A w : World) (q : Nat) (v : Value) (l : By) (k : Nat) : Prop where
  ex : Ex A w
  hq : A.heap.size ≤ q
  sl : SlT A v l
  ll : l.length ≤ 1000
  le : k ≤ l.length
  bq : w.heap[q]? = some (.cells #[v, I k, I 0] 125 (0, 0))
theorem RdW.grow {A w w' : World} {q : Nat} {v : Value} {l : By} {k : Nat} (h : RdW A w q v l k) (x : Ex w w') : RdW A w' q v l k := { h with ex := ex_trans h.ex x, bq := ex_block x h.bq }
theorem RdW.set {A w : World} {q : Nat} {v : Value} {l : By} {k n : Nat} (h : RdW A w q v l k) (hn : n ≤ l.length) : RdW A (w.setCell ⟨q, 1, none⟩ (I n)) q v l n :=
  { h with ex := ex_set h.ex h.hq _, le := hn, bq := setCell_block _ h.bq }
theorem RdW.cells {A w : World} {q : Nat} {v : Value} {l : By} {k : Nat} (h : RdW A w q v l k) : w.cell? ⟨q, 0, none⟩ = some v ∧ w.cell? ⟨q, 1, none⟩ = some (I k) ∧ w.cell? ⟨q, 2, none⟩ = some (I 0) ∧ w.frozen? ⟨q, 1, none⟩ = false ∧ q < w.heap.size :=
  ⟨(block_cell h.bq rfl).1, (block_cell h.bq rfl).1, (block_cell h.bq rfl).1, (block_cell (v := I k) h.bq rfl).2, (Array.getElem?_eq_some_iff.1 h.bq).1⟩
theorem read0_any (a : Option Addr) (n c : Nat) (w : World) : Calls Tryd.prog 67 #[.slice a n c] w (fun e w' => e = .returned (PT w.heap.size) ∧ w' = w.alloc (.cells #[.slice a n c, I 0, I 0] 125)) := by
  go_enter Tryd.func67, Tryd.ntmps67
  go_wp2
  go_ret
  exact ⟨rfl, rfl⟩
theorem RdW.new {A w w' : World} {v : Value} {l : By} {q : Nat} (k : Ex A w) (hs : SlT A v l) (hl : l.length ≤ 1000) (hq : q = w.heap.size) (x : Ex (w.alloc (.cells #[v, I 0, I 0] 125)) w') : RdW A w' q v l 0 := by
  subst hq
  exact ⟨ex_trans (ex_alloc k _) x, ex_size k, hs, hl, by omega, ex_block x (heap_alloc_new _ _)⟩
theorem left0_any {A w : World} {q : Nat} {v : Value} {l : By} {k : Nat} (h : RdW A w q v l k) : Calls Tryd.prog 84 #[PT q] w (Post w (I ((l.length : Int) - k))) := by
  obtain ⟨c0, c1, c2, _, hz⟩ := h.cells
  obtain ⟨a, c, rfl, h1, h2, h3, _⟩ := h.sl.out
  have hl := h.ll
  have hk := h.le
  unfold maxLen at h2
  clear h
  go_enter Tryd.func84, Tryd.ntmps84
  go_wp2
  refine wp_region_seqA (w) [(0, true), (1, true), (2, true), (3, true), (4, true), (5, true), (6, true), (7, true), (8, true), (9, true), (10, true), (11, true), (12, true)] (by (try show Ex _ _); with_reducible repeat (first | exact ex_refl _ | assumption | refine ex_drewL ?_ | refine ex_appR ?_ _ | refine ex_wx ?_ _ | refine ex_drew ?_ | refine ex_alloc ?_ _)) (by kernel_rfl) (by kernel_rfl) (fun _ _ d _ _ h => by cases d <;> exact h) ?_
  simp only [List.map_cons, List.map_nil, nth]
  repeat (first | ((with_reducible refine wpSeq_look ?_); go_big_quiet_step (fail); (with_reducible refine wpQuiet_nil ?_)) | ((with_reducible refine wpSeq_effF ?_ ?_); (focus rfl); go_simp) | ((with_reducible refine wpSeq_eff ?_ ?_); (focus rfl); (try dsimp only); go_wp2_with (fail); refine mixQ_mk (by (try show Ex _ _); with_reducible repeat (first | exact ex_refl _ | assumption | refine ex_drewL ?_ | refine ex_appR ?_ _ | refine ex_wx ?_ _ | refine ex_drew ?_ | refine ex_alloc ?_ _)) ?_))
  refine wpSeq_nil ?_
  go_wp2
  go_ret
  exact post_mk' rfl (by (try show Ex _ _); with_reducible repeat (first | exact ex_refl _ | assumption | refine ex_drewL ?_ | refine ex_appR ?_ _ | refine ex_wx ?_ _ | refine ex_drew ?_ | refine ex_alloc ?_ _))
theorem next0_any {A w : World} {q : Nat} {v : Value} {l : By} {k : Nat} (h : RdW A w q v l k) (n : Nat) (hn : 1 ≤ n) (hk : k + n ≤ l.length) :
    Calls Tryd.prog 80 #[PT q, I n] w fun x w' => ∃ g off c, v = .slice (some ⟨g, off, none⟩) l.length c ∧ x = .returned (.slice (some ⟨g, off + k, none⟩) n (c - k)) ∧ n ≤ c - k ∧ c ≤ maxLen ∧ RdW A w' q v l (k + n) := by
  obtain ⟨c0, c1, c2, f1, hz⟩ := h.cells
  obtain ⟨a, c, rfl, h1, h2, h3, h4⟩ := h.sl.out
  obtain ⟨g, off, rfl, hg, _⟩ := SlB.pos h4 (by omega)
  have hl := h.ll
  have H := Lib.hid h
  have HL := Lib.hid fun w' (x : Ex w w') => left0_any (h.grow x)
  have h2' := h2
  unfold maxLen at h2
  have e1 : ¬ ((l.length : Int) - k < n) := by omega
  generalize hln : l.length = m at *
  have Hm := Lib.hid hln
  clear h h3 h4 hln
  go_enter Tryd.func80, Tryd.ntmps80
  go_wp2_with (go_at_call 84; (with_reducible refine (HL.out _ (by (try show Ex _ _); with_reducible repeat (first | exact ex_refl _ | assumption | refine ex_drewL ?_ | refine ex_appR ?_ _ | refine ex_wx ?_ _ | refine ex_drew ?_ | refine ex_alloc ?_ _))).mono ?_); rintro e w2 ⟨rfl, X2, rfl⟩)
  have H3 := (H.out.grow (show Ex w (wx w X2) from ⟨X2, rfl⟩)).set (n := k + n) (by have := Hm.out; omega)
  obtain ⟨W5, hW5⟩ : ∃ W5, (wx w X2).setCell ⟨q, 1, none⟩ (I ((k : Int) + n)) = W5 := ⟨_, rfl⟩
  have hW6 : wx (w.setCell ⟨q, 1, none⟩ (I ((k : Int) + n))) X2 = W5 := by rw [← hW5, wx_setI, if_pos hz]
  rw [show ((k + n : Nat) : Int) = (k : Int) + n by push_cast; rfl, hW5] at H3
  rw [hW6]
  clear hW5 hW6
  obtain ⟨t0, t1, t2, tf1, tz⟩ := H3.cells
  rw [show ((k + n : Nat) : Int) = (k : Int) + n by push_cast; rfl] at t1
  replace H3 := Lib.hid H3
  clear c0 c1 c2 f1 hz H HL
  have e2 : (k : Int) + n - n = k := by omega
  have e3 : (k : Int) + n ≤ c := by omega
  have e4 : (k : Int) ≤ (k : Int) + n := by omega
  have hc2 : ¬ c = k := by omega
  have hc3 : ¬ (c : Int) = k := by omega
  refine wp_region_fork (W5) (.look 0 (.look 1 (.look 2 (.look 3 (.look 4 (.look 5 (.look 6 (.look 7 (.look 8 (.look 9 (.look 10 (.look 11 (.look 12 (.look 13 (.look 14 (.look 15 (.look 16 (.look 17 (.look 18 .done))))))))))))))))))) (by (try show Ex _ _); with_reducible repeat (first | exact ex_refl _ | assumption | refine ex_drewL ?_ | refine ex_appR ?_ _ | refine ex_wx ?_ _ | refine ex_drew ?_ | refine ex_alloc ?_ _)) (by kernel_rfl) (by kernel_rfl) (fun _ _ d _ _ h => by cases d <;> exact h) ?_
  simp only [Fk.ops, nth]
  repeat (first | ((with_reducible refine wpFork_look ?_); go_big_quiet_step (fail); (try (with_reducible refine wpQuiet_nil ?_))) | (with_reducible refine wpFork_eff ?_) | ((with_reducible refine effT_F ?_ ?_); (focus rfl); go_simp) | ((with_reducible refine effT_T ?_ ?_); (focus rfl); (try dsimp only); go_wp2_with (fail); refine mixQ_mk (by (try show Ex _ _); with_reducible repeat (first | exact ex_refl _ | assumption | refine ex_drewL ?_ | refine ex_appR ?_ _ | refine ex_wx ?_ _ | refine ex_drew ?_ | refine ex_alloc ?_ _)) ?_))
  all_goals (with_reducible refine wpFork_nil ?_)
  all_goals go_wp2
  all_goals (try (exfalso; omega))
  all_goals (try contradiction)
  go_ret
  refine ⟨g, off, c, rfl, ?_, by omega, h2', H3.out.grow (by (try show Ex _ _); with_reducible repeat (first | exact ex_refl _ | assumption | refine ex_drewL ?_ | refine ex_appR ?_ _ | refine ex_wx ?_ _ | refine ex_drew ?_ | refine ex_alloc ?_ _))⟩
  show Ending.returned (.slice _ (k + n - k) (c - k)) = _
  rw [Nat.add_sub_cancel_left]
/-- The number of the first bytes. -/
def numU (l : By) : Nat → Nat
  | 0 => 0
  | j + 1 => 256 * numU l j + (l.getD j 0).toNat
theorem numU_lt (l : By) (j : Nat) : numU l j < 256 ^ j := by
  induction j with
  | zero => show 0 < 1; omega
  | succ j ih =>
    have := (l.getD j 0).toNat_lt
    unfold numU
    rw [Nat.pow_succ]
    omega
theorem numU_four (l : By) : numU l 4 = num4 l := by
  unfold num4 numU numU numU numU numU
  omega
theorem number0_any {A w : World} {q : Nat} {v : Value} {l : By} {k : Nat} (h : RdW A w q v l k) (hk : k + 4 ≤ l.length) :
    Calls Tryd.prog 79 #[PT q, I 4] w fun x w' => x = .returned (.int .u64 (num4 (l.drop k) : Nat)) ∧ RdW A w' q v l (k + 4) := by
  have HN := Lib.hid (next0_any h 4 (by omega) hk)
  have hsl := Lib.hid h.sl
  have hll := h.ll
  rw [← numU_four]
  obtain ⟨dl, hdl⟩ : ∃ dl, l.drop k = dl := ⟨_, rfl⟩
  rw [hdl]
  have Hdl := Lib.hid hdl
  clear h hdl
  go_enter Tryd.func79, Tryd.ntmps79
  go_wp2_with (go_at_call 80; (refine (HN.out).mono ?_); rintro e w2 ⟨g, off, c, rfl, rfl, n1, n2, H2⟩; replace H2 := Lib.hid H2)
  have HC : Hid (g < A.heap.size ∧ ∀ W, Ex A W → ∀ j, j < 4 → W.cell? ⟨g, off + k + j, none⟩ = some (B (dl.getD j 0))) := Lib.hid (by
    rw [← Hdl.out]
    obtain ⟨a, c', hv, _, _, _, h4⟩ := hsl.out.out
    obtain ⟨ha, _, _⟩ := Value.slice.inj hv
    obtain ⟨g', off', e1, e2, e3⟩ := SlB.pos h4 (by omega)
    rw [← ha] at e1
    cases e1
    refine ⟨e2, fun W x j hj => ?_⟩
    have := e3 (k + j) (by omega)
    obtain ⟨X, rfl⟩ := x
    rw [wx_cell _ _ _ e2, Nat.add_assoc, this]
    unfold gF
    rw [List.getD_eq_getElem?_getD, List.getD_eq_getElem?_getD, List.getElem?_drop])
  obtain ⟨hgz, HC⟩ := HC.out
  replace HC := Lib.hid HC
  have hA2 := H2.out.ex
  have hz2 := ex_size hA2
  clear HN hsl
  go_loopw [4, 11] (fun x i W => ∃ j : Nat, j ≤ 4 ∧ i = I j ∧ x = .int .u64 (numU dl j : Nat) ∧ Ex w2 W) (fun _ i _ => 4 - (intOf i).toNat)
  case atStart => exact ⟨0, by omega, rfl, rfl, ex_refl _⟩
  case round =>
    obtain ⟨j, hj, rfl, rfl, hw⟩ := hrel
    by_cases hlt : j < 4
    · have hcell := HC.out wr (ex_trans hA2 hw) j hlt
      have hzr := ex_size hw
      have zg : g < wr.heap.size := by omega
      have hub := numU_lt dl j
      have hp4 : 256 ^ j ≤ 16777216 := by
        have : 256 ^ j ≤ 256 ^ 3 := Nat.pow_le_pow_right (by omega) (by omega)
        simpa using this
      have hbl := (dl.getD j 0).toNat_lt
      have hor := or256 (numU dl j) (dl.getD j 0).toNat (by omega) (by omega)
      have hst : numU dl (j + 1) = 256 * numU dl j + (dl.getD j 0).toNat := rfl
      have hw8 : IntKind.u64.wrap (bn (dl.getD j 0)) = bn (dl.getD j 0) := by rw [IntKind.wrap_u64]; unfold bn; omega
      have hmx : (numU dl j : Int) * 256 % 18446744073709551616 = numU dl j * 256 := by omega
      replace hor : bits BinOp.or IntKind.u64 ((numU dl j : Int) * 256) (bn (dl.getD j 0)) = ((256 * numU dl j + (dl.getD j 0).toNat : Nat) : Int) := hor
      replace hst := Lib.hid hst
      generalize numU dl j = x at *
      generalize dl.getD j 0 = b at *
      have hj4 : (j : Int) < 4 := by omega
      clear hub hp4 hbl
      go_wp2
      exact ⟨⟨j + 1, by omega, by go_num, by rw [hst.out]; push_cast; rfl, hw⟩, by simp [intOf]; omega⟩
    · obtain rfl : j = 4 := by omega
      go_wp2
      go_ret
      exact ⟨rfl, H2.out.grow hw⟩
theorem u32_any {A w : World} {q : Nat} {v : Value} {l : By} {k : Nat} (h : RdW A w q v l k) (hk : k + 4 ≤ l.length) :
    Calls Tryd.prog 68 #[PT q] w fun x w' => x = .returned (U4 (num4 (l.drop k))) ∧ RdW A w' q v l (k + 4) := by
  have HN := Lib.hid (number0_any h hk)
  have hx := num4_lt (l.drop k)
  generalize num4 (l.drop k) = x at *
  have hm : (x : Int) % 4294967296 = x := by omega
  clear h
  go_enter Tryd.func68, Tryd.ntmps68
  go_wp2_with (go_at_call 79; (with_reducible refine (HN.out).mono ?_); rintro e w2 ⟨rfl, H2⟩; replace H2 := Lib.hid H2)
  go_ret
  exact ⟨rfl, H2.out⟩
theorem raw4_any {A w : World} {q : Nat} {v : Value} {l : By} {k : Nat} (h : RdW A w q v l k) (hk : k + 4 ≤ l.length) :
    Calls Tryd.prog 69 #[PT q, I 4] w fun x w' => ∃ u, x = .returned u ∧ TyB w' u ((l.drop k).take 4) ∧ RdW A w' q v l (k + 4) := by
  have HN := Lib.hid (next0_any h 4 (by omega) hk)
  have hsl := Lib.hid h.sl
  obtain ⟨b4, hb4⟩ : ∃ b4, (l.drop k).take 4 = b4 := ⟨_, rfl⟩
  have hl4 : b4.length = 4 := by rw [← hb4, List.length_take, List.length_drop]; omega
  rw [hb4]
  have Hb4 := Lib.hid hb4
  replace hl4 := Lib.hid hl4
  clear h hb4
  go_enter Tryd.func69, Tryd.ntmps69
  go_wp2_with (go_at_call 80; (refine (HN.out).mono ?_); rintro e w2 ⟨g, off, c, rfl, rfl, n1, n2, H2⟩; replace H2 := Lib.hid H2)
  have HS : Hid (SlT w2 (.slice (some ⟨g, off + k, none⟩) 4 (c - k)) b4) := Lib.hid (by
    have hl4 := hl4.out
    obtain ⟨a, c', hv, _, _, _, h4⟩ := hsl.out.out
    obtain ⟨ha, _, _⟩ := Value.slice.inj hv
    obtain ⟨g', off', e1, e2, e3⟩ := SlB.pos h4 (by omega)
    rw [← ha] at e1
    cases e1
    refine SlT.ex (w := A) ⟨_, c - k, by rw [hl4], by rw [hl4]; exact n1, by omega, (fun e => by cases e), SlB.mk' e2 fun j hj => ?_⟩ H2.out.ex
    rw [hl4] at hj
    have := e3 (k + j) (by omega)
    rw [Nat.add_assoc, this, ← Hb4.out]
    unfold gF
    rw [List.getD_eq_getElem?_getD, List.getD_eq_getElem?_getD, List.getElem?_take_of_lt hj, List.getElem?_drop])
  have HC := Lib.hid (cloneT_any HS.out (by rw [hl4.out]; omega))
  clear HN hsl HS
  go_wp2_with (go_at_call 47; (with_reducible refine HC.out.mono ?_); rintro e w3 ⟨u3, rfl, hO, X, rfl⟩)
  go_ret
  exact ⟨_, rfl, hO, H2.out.grow (by (try show Ex _ _); with_reducible repeat (first | exact ex_refl _ | assumption | refine ex_drewL ?_ | refine ex_appR ?_ _ | refine ex_wx ?_ _ | refine ex_drew ?_ | refine ex_alloc ?_ _))⟩
end Go.Proofs.YtabjamkkhlbajaaDoor

/- The log: put. -/
set_option linter.unusedSimpArgs false
set_option linter.unusedVariables false
set_option linter.unnecessarySimpa false
set_option maxRecDepth 20000
namespace Go.Proofs.YtabjamkkhlbajaaDoor
open Go.RowKit
/-- What turns a log. -/
def PostLg (p : Nat) (L : Loc) (w : World) (r : Dk × Wl × Int) (e : Ending) (w' : World) : Prop := ∃ L', e = .returned (I r.2.2) ∧ LgM w' p L' r.1 r.2.1 ∧ Wv p L w L' w'
set_option maxHeartbeats 2000000 in
theorem put_no {w : World} {p : Nat} {L : Loc} {d : Dk} {wl : Wl} (h : LgM w p L d wl) (hcB : CmB wl.c) (side : Nat) (ahead : Cm) (haB : CmB ahead) (v : Value) (b : By) (hs : TyB w v b) (hb : b.length ≤ 1000000)
    (h1 : wl.c.n ≤ 1000) (h2 : ahead.used ≤ 1000) (hno : wl.br = true ∨ 50000 < b.length ∨ wl.c.n < ahead.used + secs b.length ∨ wl.c.turn = 1073741824) :
    Calls Tryd.prog 45 #[PT p, U4 side, .agg (CR ahead), v] w (PostLg p L w (putD HW d wl side ahead.used ahead.all ahead.mark b)) := by
  obtain ⟨a, c, rfl, l1, l2, l3, _⟩ := hs.out
  obtain ⟨sv, hp, hsv⟩ := h.out
  have HM := Lib.hid h
  have zp := (Array.getElem?_eq_some_iff.1 hp).1
  have c11 := (block_cellF (o := 11) (v := .bool wl.br) hp rfl).1
  have c1 := (block_cellF (o := 1) (v := U4 wl.c.n) hp rfl).1
  have c0 := (block_cellF (o := 0) (v := U4 wl.c.turn) hp rfl).1
  obtain ⟨n, hn⟩ : ∃ n, b.length = n := ⟨_, rfl⟩
  have HSc : Hid (∀ w', Calls Tryd.prog 10 #[I n] w' (Post w' (I (secI n)))) := Lib.hid fun w' => sectors_any n (by omega) (by omega) w'
  unfold putD
  rw [hn] at hno ⊢
  have hpost : ∀ e W', Ex w W' → PostLg p L w (d, wl, e) (.returned (I e)) W' := fun e W' k => ⟨L, rfl, HM.out.ex k, Wv.ofDv (Dv.ofEx k)⟩
  have HP := Lib.hid hpost
  have e32 : secI n % 4294967296 = secI n := by unfold secI; split <;> omega
  have hbn : n ≤ 1000000 := by omega
  clear h hs hp hsv hpost
  by_cases hbr : wl.br = true
  · rw [if_pos hbr]
    rw [hbr] at c11
    clear hno
    go_enter Tryd.func45, Tryd.ntmps45
    go_wp2_with (go_at_call 10; (with_reducible refine (HSc.out _).mono ?_); rintro e w2 ⟨rfl, X, rfl⟩)
    go_ret
    exact HP.out _ _ (by (try show Ex _ _); with_reducible repeat (first | exact ex_refl _ | assumption | refine ex_drewL ?_ | refine ex_appR ?_ _ | refine ex_wx ?_ _ | refine ex_drew ?_ | refine ex_alloc ?_ _))
  · rw [if_neg hbr]
    have hbr2 : wl.br = false := by simpa using hbr
    rw [hbr2] at c11
    by_cases hlg : 50000 < n
    · rw [if_pos hlg]
      clear hno
      go_enter Tryd.func45, Tryd.ntmps45
      go_wp2_with (go_at_call 10; (with_reducible refine (HSc.out _).mono ?_); rintro e w2 ⟨rfl, X, rfl⟩)
      go_ret
      exact HP.out _ _ (by (try show Ex _ _); with_reducible repeat (first | exact ex_refl _ | assumption | refine ex_drewL ?_ | refine ex_appR ?_ _ | refine ex_wx ?_ _ | refine ex_drew ?_ | refine ex_alloc ?_ _))
    · have hfull := (hno.resolve_left hbr).resolve_left hlg
      rw [if_neg hlg, if_pos hfull]
      rw [secI_nat (by omega)] at HSc
      have hs1 : secs n ≤ 1000 := by unfold secs; omega
      generalize secs n = k at *
      clear hno e32
      have ea : ((ahead.used : Int) + k) % 4294967296 = ahead.used + k := by omega
      by_cases hf1 : wl.c.n < ahead.used + k
      · have t1 : decide ((wl.c.n : Int) < (ahead.used : Int) + k) = true := decide_eq_true (by omega)
        clear hfull hf1
        go_enter Tryd.func45, Tryd.ntmps45
        go_wp2_with (go_at_call 10; (with_reducible refine (HSc.out _).mono ?_); rintro e w2 ⟨rfl, X, rfl⟩)
        refine wp_region_seqA (w.alloc (.cells (CR ahead) 62)) [(0, true), (1, true), (2, true), (3, true), (4, true), (5, true), (6, true), (7, true), (8, true), (9, true), (10, true), (11, true), (12, true), (13, true), (14, true), (15, true), (16, true), (17, true), (18, true)] (by (try show Ex _ _); with_reducible repeat (first | exact ex_refl _ | assumption | refine ex_drewL ?_ | refine ex_appR ?_ _ | refine ex_wx ?_ _ | refine ex_drew ?_ | refine ex_alloc ?_ _)) (by kernel_rfl) (by kernel_rfl) (fun _ _ d _ _ h => by cases d <;> exact h) ?_
        simp only [List.map_cons, List.map_nil, nth]
        repeat (first | ((with_reducible refine wpSeq_look ?_); go_big_quiet_step (fail); (with_reducible refine wpQuiet_nil ?_)) | ((with_reducible refine wpSeq_effF ?_ ?_); (focus rfl); go_simp) | ((with_reducible refine wpSeq_eff ?_ ?_); (focus rfl); (try dsimp only); go_wp2_with (fail); refine mixQ_mk (by (try show Ex _ _); with_reducible repeat (first | exact ex_refl _ | assumption | refine ex_drewL ?_ | refine ex_appR ?_ _ | refine ex_wx ?_ _ | refine ex_drew ?_ | refine ex_alloc ?_ _)) ?_))
        refine wpSeq_nil ?_
        go_wp2
        go_ret
        exact HP.out _ _ (by (try show Ex _ _); with_reducible repeat (first | exact ex_refl _ | assumption | refine ex_drewL ?_ | refine ex_appR ?_ _ | refine ex_wx ?_ _ | refine ex_drew ?_ | refine ex_alloc ?_ _))
      · have t1 : decide ((wl.c.n : Int) < (ahead.used : Int) + k) = false := decide_eq_false (by omega)
        have t2 : ((wl.c.turn : Int) == 1073741824) = true := by rw [hfull.resolve_left hf1]; rfl
        clear hfull hf1
        go_enter Tryd.func45, Tryd.ntmps45
        go_wp2_with (go_at_call 10; (with_reducible refine (HSc.out _).mono ?_); rintro e w2 ⟨rfl, X, rfl⟩)
        refine wp_region_seqA (w.alloc (.cells (CR ahead) 62)) [(0, true), (1, true), (2, true), (3, true), (4, true), (5, true), (6, true), (7, true), (8, true), (9, true), (10, true), (11, true), (12, true), (13, true), (14, true), (15, true), (16, true), (17, true), (18, true)] (by (try show Ex _ _); with_reducible repeat (first | exact ex_refl _ | assumption | refine ex_drewL ?_ | refine ex_appR ?_ _ | refine ex_wx ?_ _ | refine ex_drew ?_ | refine ex_alloc ?_ _)) (by kernel_rfl) (by kernel_rfl) (fun _ _ d _ _ h => by cases d <;> exact h) ?_
        simp only [List.map_cons, List.map_nil, nth]
        repeat (first | ((with_reducible refine wpSeq_look ?_); go_big_quiet_step (fail); (with_reducible refine wpQuiet_nil ?_)) | ((with_reducible refine wpSeq_effF ?_ ?_); (focus rfl); go_simp) | ((with_reducible refine wpSeq_eff ?_ ?_); (focus rfl); (try dsimp only); go_wp2_with (fail); refine mixQ_mk (by (try show Ex _ _); with_reducible repeat (first | exact ex_refl _ | assumption | refine ex_drewL ?_ | refine ex_appR ?_ _ | refine ex_wx ?_ _ | refine ex_drew ?_ | refine ex_alloc ?_ _)) ?_))
        refine wpSeq_nil ?_
        go_wp2
        go_ret
        exact HP.out _ _ (by (try show Ex _ _); with_reducible repeat (first | exact ex_refl _ | assumption | refine ex_drewL ?_ | refine ex_appR ?_ _ | refine ex_wx ?_ _ | refine ex_drew ?_ | refine ex_alloc ?_ _))
end Go.Proofs.YtabjamkkhlbajaaDoor

/- The log in memory: rows of sheets. -/
set_option linter.unusedSimpArgs false
set_option linter.unusedVariables false
set_option linter.unnecessarySimpa false
set_option maxRecDepth 20000
namespace Go.Proofs.YtabjamkkhlbajaaDoor
open Go.RowKit
theorem Ky.setP {w : World} {p : Nat} {cs : Array Value} {fr : Nat × Nat} (h : w.heap[p]? = some (.cells cs 64 fr)) (o : Nat) (v : Value) : Ky w (w.setCell ⟨p, o, none⟩ v) := fun g cs2 t fr2 hg ht => by
  by_cases e : g = p
  · subst e
    rw [h] at hg
    cases hg
    rcases ht with ht | ht <;> exact absurd ht (by decide)
  · exact (setCell_heap v e).trans hg
theorem slsh_own {w : World} {Z n : Nat} {v : Value} {us : List Value} {ls : List By} (h : w.ownsRow Z 22 1 v n us) (hn : ls.length = n) (hu : ∀ (j : Nat) (l : By), ls[j]? = some l → ∃ u, us[j]? = some u ∧ TyB w u l) : SlSh w v ls := by
  subst hn
  obtain ⟨a, c, rfl, h1, h2, h3⟩ := own_form h
  refine ⟨a, c, rfl, h1, h2, h3, ?_⟩
  rcases Nat.eq_zero_or_pos ls.length with h0 | h0
  · exact Or.inl (List.eq_nil_of_length_eq_zero h0)
  · right
    obtain ⟨g, cap, cur, hv2, k1, k2, k3, k4, k5, k6⟩ := own_block h h0 (by omega)
    obtain ⟨ha, _, _⟩ := Value.slice.inj hv2
    refine ⟨g, 0, cur, (0, 0), ha, k2, fun j l hl => ?_⟩
    obtain ⟨u, h1, h2⟩ := hu j l hl
    have hj : j < ls.length := (List.getElem?_eq_some_iff.1 hl).1
    refine ⟨u, ?_, h2⟩
    rw [← k6, List.getElem?_take_of_lt (by omega), Array.getElem?_toList] at h1
    rw [Nat.zero_add]; exact h1
theorem appSh : AppT Tryd.prog 30 22 1 24 (.slice none 0 0) := ⟨Tryd.underlying30, by kernel_rfl, rfl, by decide⟩
/-- A sheet's slice behind others, all of whose room is taken. -/
theorem wpAppSh {ops : Array Oper} {rest : List Oper} {o : Oper} {a : Act} {w : World} {Q : Exit → Act → World → Prop} (s x : Operand) (hgd : o.guard = none)
    (ho : o.op = .call { callee := .builtin .append, args := #[s, x], argTypes := #[30, 30] })
    {ao : Option Addr} {n : Nat} {olds : List Value} (hs : a.eval s = .slice ao n n) (hnone : ao = none → n = 0) (hlo : olds.length = n) (holds : ∀ b, ao = some b → ∀ (j : Nat) (u : Value), olds[j]? = some u → w.cell? (b.add j) = some u)
    {g c : Nat} {u : Value} (hx : a.eval x = .slice (some ⟨g, 0, none⟩) 1 c) (hc : w.cell? ⟨g, 0, none⟩ = some u) (h1 : u.oneCell' = true) (hb : n ≤ 1000000)
    (h : ∀ v' w', w'.ownsRow w.heap.size 22 1 v' (n + 1) (olds ++ [u]) → (∃ X, w' = wx w X) → wpList Tryd.prog ops Q rest (a.put o.dst v') w') : wpList Tryd.prog ops Q (o :: rest) a w := by
  obtain ⟨i, hi, h1', h2', h3'⟩ := info_parts appSh.hi
  refine wpList_append_grows w hgd s x _ ho _ i _ _ _ appSh.ht hi h1' h2' h3' appSh.hzs appSh.hsz ao n n olds hs (fun e => ⟨hnone e, hnone e⟩) (by rw [hlo]; omega) holds ⟨g, 0, none⟩ 1 c [u] hx rfl (fun j v hj => ?_) (fun v hv => by rw [List.mem_singleton.1 hv]; exact h1) (by omega) (by unfold maxLen; omega) (by omega) fun v' w' k1 k2 => h v' w' k1 (ex_of_below ⟨k2.os, k2.tape, k2.output, k2.size, fun b hb => k2.block b hb (fun e => by cases e)⟩)
  match j, hj with
  | 0, hj => rw [show v = u from (Option.some.inj hj).symm]; simpa [Addr.add] using hc
theorem SlSh.at {w : World} {a : Option Addr} {n c : Nat} {ls : List By} (h : SlSh w (.slice a n c) ls) {j : Nat} (hj : j < ls.length) : ∃ g off, a = some ⟨g, off, none⟩ ∧ g < w.heap.size ∧ ∃ u, w.cell? ⟨g, off + j, none⟩ = some u ∧ TyB w u (ls.getD j []) := by
  obtain ⟨a', c', hv, _, _, _, h4⟩ := h.out
  obtain ⟨rfl, _, _⟩ := Value.slice.inj hv
  rcases h4 with rfl | ⟨g, off, cs, fr, rfl, hb, hc⟩
  · exact absurd hj (by simp)
  · obtain ⟨u, hu, ht⟩ := hc j _ (List.getElem?_eq_getElem hj)
    refine ⟨g, off, rfl, (Array.getElem?_eq_some_iff.1 hb).1, u, by rw [cell_of_row w g (off + j) _ _ _ hb]; exact hu, ?_⟩
    rw [List.getD_eq_getElem?_getD, List.getElem?_eq_getElem hj]; exact ht
/-- The elements of a beginning. -/
theorem SlSh.olds {w : World} {g off c n : Nat} {ls : List By} (h : SlSh w (.slice (some ⟨g, off, none⟩) ls.length c) ls) (hn : n ≤ ls.length) : ∃ olds : List Value, olds.length = n ∧ (∀ (j : Nat) (u : Value), olds[j]? = some u → w.cell? ((⟨g, off, none⟩ : Addr).add j) = some u) ∧ (∀ (j : Nat) (l : By), (ls.take n)[j]? = some l → ∃ u, olds[j]? = some u ∧ TyB w u l) := by
  obtain ⟨a', c', hv, _, _, _, h4⟩ := h.out
  obtain ⟨ha, _, _⟩ := Value.slice.inj hv
  rcases h4 with h0 | ⟨g', off', cs, fr, e, hb, hc⟩
  · refine ⟨[], ?_, fun j u hj => by simp at hj, fun j l hl => ?_⟩
    · rw [h0] at hn; simp at hn ⊢; omega
    · rw [h0] at hl; simp at hl
  · rw [← ha] at e
    cases e
    refine ⟨(List.range n).map fun j => (cs[off + j]?).getD undef, by simp, fun j u hj => ?_, fun j l hl => ?_⟩
    · rw [List.getElem?_map] at hj
      by_cases hjn : j < n
      · rw [List.getElem?_range hjn] at hj
        obtain ⟨u2, hu2, _⟩ := hc j _ (List.getElem?_eq_getElem (by omega))
        rw [Option.map_some, hu2] at hj
        rw [Addr.add_lit, cell_of_row w g (off + j) _ _ _ hb, hu2, ← hj]; rfl
      · rw [List.getElem?_eq_none (by simp; omega)] at hj; cases hj
    · have hjn : j < (ls.take n).length := (List.getElem?_eq_some_iff.1 hl).1
      rw [List.length_take] at hjn
      rw [List.getElem?_take_of_lt (by omega)] at hl
      obtain ⟨u2, hu2, ht⟩ := hc j l hl
      refine ⟨u2, ?_, ht⟩
      rw [List.getElem?_map, List.getElem?_range (by omega), Option.map_some, hu2]; rfl
theorem slsh_snoc {w : World} {Z n : Nat} {v u : Value} {olds : List Value} {ls : List By} {b : By} (h : w.ownsRow Z 22 1 v (n + 1) (olds ++ [u])) (hn : ls.length = n) (ho : olds.length = n) (hu : ∀ (j : Nat) (l : By), ls[j]? = some l → ∃ u, olds[j]? = some u ∧ TyB w u l) (hb : TyB w u b) : SlSh w v (ls ++ [b]) := by
  refine slsh_own h (by rw [List.length_append, hn]; rfl) fun j l hl => ?_
  by_cases hj : j < n
  · rw [List.getElem?_append_left (l₁ := ls) (by omega)] at hl
    obtain ⟨x, h1, h2⟩ := hu j l hl
    exact ⟨x, by rw [List.getElem?_append_left (l₁ := olds) (by omega)]; exact h1, h2⟩
  · have hj2 : j < (ls ++ [b]).length := (List.getElem?_eq_some_iff.1 hl).1
    rw [List.length_append, hn] at hj2
    have : j = n := by simp at hj2; omega
    subst this
    rw [List.getElem?_append_right (l₁ := ls) (by omega), hn, Nat.sub_self] at hl
    obtain rfl : b = l := by simpa using hl
    exact ⟨u, by rw [List.getElem?_append_right (l₁ := olds) (by omega), ho, Nat.sub_self]; rfl, hb⟩
theorem DkAt.setP {w : World} {L : Loc} {d : Dk} (h : DkAt w L d) {p : Nat} (hp : ¬ L.own p) (o : Nat) (v : Value) : DkAt (w.setCell ⟨p, o, none⟩ v) L d := by
  obtain ⟨qv, hM⟩ := h.out
  exact ⟨qv, hM.keep fun b hb => setCell_heap v fun e => hp (by rw [← e]; exact hb)⟩
theorem put_fin {p : Nat} {L L2 : Loc} {w A w9 W' : World} {d1 : Dk} {cN : Cm} {sv v9 lv : Value} {olds : List Value} {sh : List By} {b : By} {all Z : Nat} (HD : DkAt A L2 d1) (HV : Wv p L w L2 A)
    (hp : A.heap[p]? = some (.cells (WR cN L.p sv false) 64 (0, 0))) (n2 : ¬ L2.own p) (k9 : Ex A w9) (hown : w9.ownsRow Z 22 1 v9 (all + 1) (olds ++ [lv])) (h4 : all ≤ sh.length) (ho : olds.length = all)
    (hol : ∀ (j : Nat) (l : By), (sh.take all)[j]? = some l → ∃ u, olds[j]? = some u ∧ TyB A u l) (hb : TyB w9 lv b) (k : Ex (w9.setCell ⟨p, 10, none⟩ v9) W') : LgM W' p L2 d1 ⟨cN, sh.take all ++ [b], false⟩ ∧ Wv p L w L2 W' := by
  have h9 := ex_block k9 hp
  have h10 := setCell_block (o := 10) v9 h9
  have hsh := slsh_snoc (n := all) (ls := sh.take all) (b := b) hown (by rw [List.length_take]; omega) ho (fun j l hl => by
    obtain ⟨u, q1, q2⟩ := hol j l hl
    exact ⟨u, q1, q2.ky (Ky.ex k9)⟩) hb
  have hM : LgM (w9.setCell ⟨p, 10, none⟩ v9) p L2 d1 ⟨cN, sh.take all ++ [b], false⟩ := ⟨(HD.ex k9).setP n2 10 _, ⟨v9, by rw [HV.pp]; exact h10, hsh.ky (Ky.setP h9 10 v9)⟩, n2⟩
  exact ⟨hM.ex k, ((HV.grow k9).set 10 _).grow k⟩
end Go.Proofs.YtabjamkkhlbajaaDoor

/- The log: put, when it goes on. -/
set_option linter.unusedSimpArgs false
set_option linter.unusedVariables false
set_option linter.unnecessarySimpa false
set_option maxRecDepth 20000
namespace Go.Proofs.YtabjamkkhlbajaaDoor
open Go.RowKit
def build6Run (P : Program) (t : TypeId) (v0 v1 v2 v3 v4 v5 : Value) (w : World) : Result Next := ((Instr.build t #[(0, v0), (1, v1), (2, v2), (3, v3), (4, v4), (5, v5)]).run P w).andThen fun x w' => .ok (.value x) w'
@[go_sem ↓ high] theorem run_build6_pre {P : Program} (ρ : Operand → Value) (d : Option Tmp) (t : TypeId) (x0 x1 x2 x3 x4 x5 : Operand) (ty : TypeId) (pos : String) (aft : Array Edge) (g : Option (Nat × Bool)) (w : World) :
    Sem.run P (execOp ρ ⟨d, .build t #[(0, x0), (1, x1), (2, x2), (3, x3), (4, x4), (5, x5)], ty, pos, aft, g⟩) w = build6Run P t (ρ x0) (ρ x1) (ρ x2) (ρ x3) (ρ x4) (ρ x5) w := by
  simp only [execOp, Sem.run_bind, Sem.run_pure, build6Run, List.map_toArray, List.map_cons, List.map_nil]
@[go_sem low] theorem build6Run_other {P : Program} (t : TypeId) (v0 v1 v2 v3 v4 v5 : Value) (w : World) : build6Run P t v0 v1 v2 v3 v4 v5 w = ((Instr.build t #[(0, v0), (1, v1), (2, v2), (3, v3), (4, v4), (5, v5)]).run P w).andThen fun x w' => .ok (.value x) w' := rfl
theorem built_claim (t n s u a : Int) (f : Nat → UInt8) : Tryd.prog.built 62 [(0, .int .u32 t), (1, .int .u32 n), (2, .int .u32 s), (3, .int .u32 u), (4, .int .u32 a), (5, .agg (rowB 4 f))] = some #[.int .u32 t, .int .u32 n, .int .u32 s, .int .u32 u, .int .u32 a, B (f 0), B (f 1), B (f 2), B (f 3)] := by kernel_rfl
@[go_sem] theorem build6_claim (t n s u a : Int) (f : Nat → UInt8) (w : World) : build6Run Tryd.prog 62 (.int .u32 t) (.int .u32 n) (.int .u32 s) (.int .u32 u) (.int .u32 a) (.agg (rowB 4 f)) w = .ok (.value (.agg #[.int .u32 t, .int .u32 n, .int .u32 s, .int .u32 u, .int .u32 a, B (f 0), B (f 1), B (f 2), B (f 3)])) w := by
  unfold build6Run
  rw [run_build w _ _ _ (built_claim t n s u a f)]; rfl
theorem own_form9 {w : World} {Z : Nat} {t : TypeId} {s n : Nat} {v : Value} {xs : List Value} (h : w.ownsRow Z t s v n xs) : ∃ a c, v = .slice a n c ∧ True := by
  rcases h.2 with h0 | ⟨g, cap, cur, rfl, _⟩
  · obtain ⟨h1, h2⟩ := h0
    refine ⟨none, 0, ?_, trivial⟩
    first | (rw [h1, h2]) | (subst h1; subst h2; rfl)
  · exact ⟨_, _, rfl, trivial⟩
/-- In the midst of put: the next head's claim. -/
def midP (A : World) (c : Cm) (ks : List Nat) (a0 a' : Act) (w' : World) : Prop :=
  ∃ gd, a'.tmps.getD 10 undef = PT gd ∧ a' = ks.foldl (fun a k => a.put (some k) (a'.tmps.getD k undef)) a0 ∧ w'.heap[gd]? = some (.cells (CR c) 62 (0, 0)) ∧ A.heap.size ≤ gd ∧ Ex A w'
theorem midP_mk {A : World} {c : Cm} {ks : List Nat} {a0 a' : Act} {w' : World} {gd : Nat} (h1 : a'.tmps.getD 10 undef = PT gd) (h2 : a' = ks.foldl (fun a k => a.put (some k) (a'.tmps.getD k undef)) a0) (h3 : w'.heap[gd]? = some (.cells (CR c) 62 (0, 0))) (h4 : A.heap.size ≤ gd) (h5 : Ex A w') : midP A c ks a0 a' w' := ⟨gd, h1, h2, h3, h4, h5⟩
theorem mid_block {A B w' : World} {cs : Array Value} {c : Cm} {gd : Nat} (hg : gd = B.heap.size) (k : Ex (B.alloc (.cells cs 62)) w') (hc : cs = CR c) : w'.heap[gd]? = some (.cells (CR c) 62 (0, 0)) := by
  subst hg hc
  exact ex_block k (heap_alloc_new B _)
/-- Behind wal.all in put. -/
def midQ (p : Nat) (L : Loc) (A : World) (r : Dk × Int) (c c0 : Cm) (sv : Value) (br : Bool) (ks : List Nat) (a0 a' : Act) (w' : World) : Prop :=
  ∃ L2, a'.tmps.getD 11 undef = I r.2 ∧ a' = ks.foldl (fun a k => a.put (some k) (a'.tmps.getD k undef)) a0 ∧ DkAt w' L2 r.1 ∧ Wv p L A L2 w' ∧ w'.heap[p]? = some (.cells (WR (if r.2 = 0 then c else c0) L.p sv br) 64 (0, 0))
theorem midQ_mk {p : Nat} {L L2 : Loc} {A : World} {r : Dk × Int} {c c0 : Cm} {sv : Value} {br : Bool} {ks : List Nat} {a0 a' : Act} {w' : World} (h1 : a'.tmps.getD 11 undef = I r.2) (h2 : a' = ks.foldl (fun a k => a.put (some k) (a'.tmps.getD k undef)) a0) (h3 : DkAt w' L2 r.1) (h4 : Wv p L A L2 w') (h5 : w'.heap[p]? = some (.cells (WR (if r.2 = 0 then c else c0) L.p sv br) 64 (0, 0))) : midQ p L A r c c0 sv br ks a0 a' w' := ⟨L2, h1, h2, h3, h4, h5⟩
set_option maxHeartbeats 4000000 in
theorem put_go {w0 w : World} (G : Glob w0) (k0 : Ex w0 w) {p : Nat} {L : Loc} {d : Dk} {wl : Wl} (h : LgM w p L d wl) (hcB : CmB wl.c) (side : Nat) (ahead : Cm) (haB : CmB ahead) (v : Value) (b : By) (hs : TyB w v b)
    (h1 : wl.c.n ≤ 1000) (h2 : ahead.used ≤ 1000) (h3 : side ≤ 1) (h4 : ahead.all ≤ wl.sh.length) (h5 : wl.sh.length ≤ 100000) (h50 : 0 < wl.sh.length) (h6 : wl.c.turn ≤ 1073741824) (ho : ∀ x, L.own x → w0.heap.size ≤ x) (hpo : w0.heap.size ≤ p) (hops : d.ops + 2000 < 1000000000) (hq : d.qu.length + 2000 < 1000000)
    (g1 : wl.br = false) (g2 : b.length ≤ 50000) (g3 : ahead.used + secs b.length ≤ wl.c.n) (g4 : wl.c.turn ≠ 1073741824) :
    Calls Tryd.prog 45 #[PT p, U4 side, .agg (CR ahead), v] w (PostLg p L w (putD HW d wl side ahead.used ahead.all ahead.mark b)) := by
  obtain ⟨a, c, rfl, l1, l2, l3, _⟩ := hs.out
  obtain ⟨sv, hp, hsv⟩ := h.out
  have HM := Lib.hid h
  have HTy := Lib.hid hs
  have zp := (Array.getElem?_eq_some_iff.1 hp).1
  have c11 := (block_cellF (o := 11) (v := .bool wl.br) hp rfl).1
  have c1 := (block_cellF (o := 1) (v := U4 wl.c.n) hp rfl).1
  have c0 := (block_cellF (o := 0) (v := U4 wl.c.turn) hp rfl).1
  have c9 := (block_cellF (o := 9) (v := PT L.p) hp rfl).1
  rw [g1] at c11
  obtain ⟨n, hn⟩ : ∃ n, b.length = n := ⟨_, rfl⟩
  obtain ⟨k, hk⟩ : ∃ k, secs n = k := ⟨_, rfl⟩
  have HSc : Hid (∀ w', Calls Tryd.prog 10 #[I n] w' (Post w' (I (k : Int)))) := Lib.hid fun w' => by
    have := sectors_any n (by omega) (by omega) w'
    rwa [secI_nat (by omega), hk] at this
  have hk1 : k ≤ 1000 := by rw [← hk]; unfold secs; omega
  have hr : putD HW d wl side ahead.used ahead.all ahead.mark b = if (layD HW d (2 + (side * wl.c.n + ahead.used)) b (nextC HW wl.c side ahead.used ahead.all ahead.mark b)).2 = 0 then
      ((layD HW d (2 + (side * wl.c.n + ahead.used)) b (nextC HW wl.c side ahead.used ahead.all ahead.mark b)).1, ⟨nextC HW wl.c side ahead.used ahead.all ahead.mark b, wl.sh.take ahead.all ++ [b], false⟩, 0)
    else ((layD HW d (2 + (side * wl.c.n + ahead.used)) b (nextC HW wl.c side ahead.used ahead.all ahead.mark b)).1, { wl with br := true }, (layD HW d (2 + (side * wl.c.n + ahead.used)) b (nextC HW wl.c side ahead.used ahead.all ahead.mark b)).2) := by
    unfold putD
    rw [if_neg (by simp [g1]), if_neg (by omega), if_neg (by omega)]
  rw [hn] at g2 g3 l1 ⊢
  rw [hk] at g3
  have HN := Lib.hid hn
  have HK := Lib.hid hk
  have HR := Lib.hid hr
  have ea : ((ahead.used : Int) + k) % 4294967296 = ahead.used + k := by omega
  have t1 : decide ((wl.c.n : Int) < (ahead.used : Int) + k) = false := decide_eq_false (by omega)
  have t2 : ((wl.c.turn : Int) == 1073741824) = false := beq_eq_false_iff_ne.2 (by omega)
  have eb : ((wl.c.turn : Int) + 1) % 4294967296 = wl.c.turn + 1 := by omega
  have hall : ahead.all ≤ 100000 := by omega
  have ec : ((ahead.all : Int) + 1) % 4294967296 = ahead.all + 1 := by omega
  have hmk := haB.hm
  have Hsv := Lib.hid hsv
  clear hn hk hr h hs hsv
  have HMk : Hid (∀ w', Ex (w.alloc (.cells (CR ahead) 62)) w' → SlT w' (.slice (some ⟨w.heap.size, 5, none⟩) 4 4) ahead.mark) := Lib.hid fun w' kk => by
    have hb := ex_block kk (heap_alloc_new w (.cells (CR ahead) 62))
    refine ⟨_, 4, by rw [hmk], by rw [hmk]; omega, by decide, (fun e => by cases e), SlB.mk' (Array.getElem?_eq_some_iff.1 hb).1 fun j hj => ?_⟩
    rw [hmk] at hj
    rw [cell_of_row w' w.heap.size (5 + j) _ _ _ hb]
    match j, hj with
    | 0, _ => rfl
    | 1, _ => rfl
    | 2, _ => rfl
    | 3, _ => rfl
  have HDg : Hid (∀ w' g, Ex (w.alloc (.cells (CR ahead) 62)) w' → w'.cell? ⟨g, 0, none⟩ = some (.slice (some ⟨w.heap.size, 5, none⟩) 4 4) → w'.cell? ⟨g, 1, none⟩ = some (.slice a n c) → Calls Tryd.prog 34 #[.slice (some ⟨g, 0, none⟩) 2 2] w' (Post w' (.agg (rowB 4 (gF (HW (ahead.mark ++ b))))))) := Lib.hid fun w' g kk hc hc2 => by
    have hv := HTy.out.slt.ex (ex_trans (ex_alloc (ex_refl _) _) kk)
    rw [HN.out] at hv
    exact digest2_any G (ex_trans k0 (ex_trans (ex_alloc (ex_refl _) _) kk)) hc hc2 (HMk.out w' kk) hv (by rw [hmk, HN.out]; omega)
  go_enter Tryd.func45, Tryd.ntmps45
  go_wp2_with (go_at_call 10; (with_reducible refine (HSc.out _).mono ?_); rintro e w2 ⟨rfl, X, rfl⟩)
  refine wp_region_seqA (w.alloc (.cells (CR ahead) 62)) [(0, true), (1, true), (2, true), (3, true), (4, true), (5, true), (6, true), (7, true), (8, true), (9, true), (10, true), (11, true), (12, true), (13, true), (14, true), (15, true), (16, true), (17, true), (18, true)] (by (try show Ex _ _); with_reducible repeat (first | exact ex_refl _ | assumption | refine ex_drewL ?_ | refine ex_appR ?_ _ | refine ex_wx ?_ _ | refine ex_drew ?_ | refine ex_alloc ?_ _)) (by kernel_rfl) (by kernel_rfl) (fun _ _ d _ _ h => by cases d <;> exact h) ?_
  simp only [List.map_cons, List.map_nil, nth]
  repeat (first | ((with_reducible refine wpSeq_look ?_); go_big_quiet_step (fail); (with_reducible refine wpQuiet_nil ?_)) | ((with_reducible refine wpSeq_effF ?_ ?_); (focus rfl); go_simp) | ((with_reducible refine wpSeq_eff ?_ ?_); (focus rfl); (try dsimp only); go_wp2_with (fail); refine mixQ_mk (by (try show Ex _ _); with_reducible repeat (first | exact ex_refl _ | assumption | refine ex_drewL ?_ | refine ex_appR ?_ _ | refine ex_wx ?_ _ | refine ex_drew ?_ | refine ex_alloc ?_ _)) ?_))
  refine wpSeq_nil ?_
  go_wp2
  have hCR : #[.int .u32 ((wl.c.turn : Int) + 1), U4 wl.c.n, U4 side, .int .u32 ((ahead.used : Int) + k), .int .u32 ((ahead.all : Int) + 1), B (gF (HW (ahead.mark ++ b)) 0), B (gF (HW (ahead.mark ++ b)) 1), B (gF (HW (ahead.mark ++ b)) 2), B (gF (HW (ahead.mark ++ b)) 3)] = CR (nextC HW wl.c side ahead.used ahead.all ahead.mark b) := by
    show _ = #[U4 (wl.c.turn + 1), U4 wl.c.n, U4 side, U4 (ahead.used + secs b.length), U4 (ahead.all + 1), B (gF (HW (ahead.mark ++ b)) 0), B (gF (HW (ahead.mark ++ b)) 1), B (gF (HW (ahead.mark ++ b)) 2), B (gF (HW (ahead.mark ++ b)) 3)]
    rw [HN.out, HK.out]
    unfold U4
    push_cast
    rfl
  have HCR := Lib.hid hCR
  clear hCR
  refine wp_mid (fun a0 a' w' => midP (w.alloc (.cells (CR ahead) 62)) (nextC HW wl.c side ahead.used ahead.all ahead.mark b) [44, 45, 46, 47, 48, 49, 50, 51, 52, 53, 54, 55, 56, 57, 58, 59, 60, 61, 62, 63, 64, 65, 66, 67, 68, 10] a0 a' w') ?_ ?_
  · refine wp_region_forkJ (w.alloc (.cells (CR ahead) 62)) (.look 0 (.look 1 (.look 2 (.look 3 (.look 4 (.look 5 (.look 6 (.look 7 (.look 8 (.look 9 (.look 10 (.look 11 (.look 12 (.look 13 (.look 14 (.look 15 (.look 16 (.look 17 (.look 18 (.look 19 (.look 20 (.look 21 (.fork 22 (.fork 23 (.look 24 (.eff 25 (.eff 26 .done))) 25 (.eff 23 (.look 24 (.eff 26 .done)))) 25 (.eff 22 (.eff 23 (.look 24 (.eff 26 .done))))))))))))))))))))))))))) (by (try show Ex _ _); with_reducible repeat (first | exact ex_refl _ | assumption | refine ex_drewL ?_ | refine ex_appR ?_ _ | refine ex_wx ?_ _ | refine ex_drew ?_ | refine ex_alloc ?_ _)) (by kernel_rfl) (by kernel_rfl) (fun _ _ d _ _ h => by cases d <;> exact h) ?_
    simp only [Fj.ops, nth]
    repeat (first | ((with_reducible refine wpForkJ_look ?_); go_big_quiet_step (fail); (try (with_reducible refine wpQuiet_nil ?_))) | (with_reducible refine wpForkJ_eff ?_) | ((with_reducible refine effT_F ?_ ?_); (focus rfl); go_simp) | ((with_reducible refine effT_T ?_ ?_); (focus rfl); (try dsimp only); go_wp2_with ((go_at_call 34; (with_reducible refine (HDg.out _ _ (by (try show Ex _ _); with_reducible repeat (first | exact ex_refl _ | assumption | refine ex_drewL ?_ | refine ex_appR ?_ _ | refine ex_wx ?_ _ | refine ex_drew ?_ | refine ex_alloc ?_ _)) (by simp [go_sem]) (by simp [go_sem])).mono ?_); rintro e w3 ⟨rfl, X3, rfl⟩)); refine mixQ_mk (by (try show Ex _ _); with_reducible repeat (first | exact ex_refl _ | assumption | refine ex_drewL ?_ | refine ex_appR ?_ _ | refine ex_wx ?_ _ | refine ex_drew ?_ | refine ex_alloc ?_ _)) ?_))
    all_goals (try (first | (with_reducible refine wpForkJ_fork ?_ ?_) | (with_reducible refine wpForkJ_three ?_ ?_ ?_)))
    all_goals repeat (first | ((with_reducible refine wpForkJ_look ?_); go_big_quiet_step (fail); (try (with_reducible refine wpQuiet_nil ?_))) | (with_reducible refine wpForkJ_eff ?_) | ((with_reducible refine effT_F ?_ ?_); (focus rfl); go_simp) | ((with_reducible refine effT_T ?_ ?_); (focus rfl); (try dsimp only); go_wp2_with ((go_at_call 34; (with_reducible refine (HDg.out _ _ (by (try show Ex _ _); with_reducible repeat (first | exact ex_refl _ | assumption | refine ex_drewL ?_ | refine ex_appR ?_ _ | refine ex_wx ?_ _ | refine ex_drew ?_ | refine ex_alloc ?_ _)) (by simp [go_sem]) (by simp [go_sem])).mono ?_); rintro e w3 ⟨rfl, X3, rfl⟩)); refine mixQ_mk (by (try show Ex _ _); with_reducible repeat (first | exact ex_refl _ | assumption | refine ex_drewL ?_ | refine ex_appR ?_ _ | refine ex_wx ?_ _ | refine ex_drew ?_ | refine ex_alloc ?_ _)) ?_))
    all_goals (try (first | (with_reducible refine wpForkJ_fork ?_ ?_) | (with_reducible refine wpForkJ_three ?_ ?_ ?_)))
    all_goals repeat (first | ((with_reducible refine wpForkJ_look ?_); go_big_quiet_step (fail); (try (with_reducible refine wpQuiet_nil ?_))) | (with_reducible refine wpForkJ_eff ?_) | ((with_reducible refine effT_F ?_ ?_); (focus rfl); go_simp) | ((with_reducible refine effT_T ?_ ?_); (focus rfl); (try dsimp only); go_wp2_with ((go_at_call 34; (with_reducible refine (HDg.out _ _ (by (try show Ex _ _); with_reducible repeat (first | exact ex_refl _ | assumption | refine ex_drewL ?_ | refine ex_appR ?_ _ | refine ex_wx ?_ _ | refine ex_drew ?_ | refine ex_alloc ?_ _)) (by simp [go_sem]) (by simp [go_sem])).mono ?_); rintro e w3 ⟨rfl, X3, rfl⟩)); refine mixQ_mk (by (try show Ex _ _); with_reducible repeat (first | exact ex_refl _ | assumption | refine ex_drewL ?_ | refine ex_appR ?_ _ | refine ex_wx ?_ _ | refine ex_drew ?_ | refine ex_alloc ?_ _)) ?_))
    all_goals (with_reducible refine wpForkJ_nil ?_)
    all_goals
      refine midP_mk rfl (by kernel_rfl) ?_ (by simp [go_sem] <;> omega) (by (try show Ex _ _); with_reducible repeat (first | exact ex_refl _ | assumption | refine ex_drewL ?_ | refine ex_appR ?_ _ | refine ex_wx ?_ _ | refine ex_drew ?_ | refine ex_alloc ?_ _))
      apply mid_block (A := w) (hc := HCR.out)
      case k => with_reducible repeat (first | exact ex_refl _ | refine ex_wx ?_ _ | refine ex_drew ?_ | refine ex_alloc ?_ _)
      simp [go_sem]
  rintro a0 W6 hmid
  obtain ⟨gd, g8, ha0, hbd, hgd, hk6⟩ := hmid
  simp only [List.foldl] at ha0
  rw [g8] at ha0
  clear g8
  generalize a0.tmps.getD 44 undef = u44 at ha0
  generalize a0.tmps.getD 45 undef = u45 at ha0
  generalize a0.tmps.getD 46 undef = u46 at ha0
  generalize a0.tmps.getD 47 undef = u47 at ha0
  generalize a0.tmps.getD 48 undef = u48 at ha0
  generalize a0.tmps.getD 49 undef = u49 at ha0
  generalize a0.tmps.getD 50 undef = u50 at ha0
  generalize a0.tmps.getD 51 undef = u51 at ha0
  generalize a0.tmps.getD 52 undef = u52 at ha0
  generalize a0.tmps.getD 53 undef = u53 at ha0
  generalize a0.tmps.getD 54 undef = u54 at ha0
  generalize a0.tmps.getD 55 undef = u55 at ha0
  generalize a0.tmps.getD 56 undef = u56 at ha0
  generalize a0.tmps.getD 57 undef = u57 at ha0
  generalize a0.tmps.getD 58 undef = u58 at ha0
  generalize a0.tmps.getD 59 undef = u59 at ha0
  generalize a0.tmps.getD 60 undef = u60 at ha0
  generalize a0.tmps.getD 61 undef = u61 at ha0
  generalize a0.tmps.getD 62 undef = u62 at ha0
  generalize a0.tmps.getD 63 undef = u63 at ha0
  generalize a0.tmps.getD 64 undef = u64 at ha0
  generalize a0.tmps.getD 65 undef = u65 at ha0
  generalize a0.tmps.getD 66 undef = u66 at ha0
  generalize a0.tmps.getD 67 undef = u67 at ha0
  generalize a0.tmps.getD 68 undef = u68 at ha0
  subst ha0
  have hw6 : Ex w W6 := ex_trans (ex_alloc (ex_refl _) _) hk6
  have hz1 : (w.alloc (.cells (CR ahead) 62)).heap.size = w.heap.size + 1 := by rw [World.size_alloc]
  have hb6 := ex_block hk6 (heap_alloc_new w (.cells (CR ahead) 62))
  have hp6 := ex_block hw6 hp
  have zd := (Array.getElem?_eq_some_iff.1 hbd).1
  have z6 := (Array.getElem?_eq_some_iff.1 hb6).1
  have zp6 := (Array.getElem?_eq_some_iff.1 hp6).1
  have d4 := (block_cellsF (n := 9) hbd rfl).1
  have d3 := (block_cellF (o := 3) (v := U4 ahead.used) hb6 rfl).1
  have p9 := (block_cellF (o := 9) (v := PT L.p) hp6 rfl).1
  have pc : cellsN W6 p 0 9 = some (CR wl.c) := cellsN_some.2 ⟨rfl, fun j hj => by
    rw [Nat.zero_add, cell_of_row W6 p j _ _ _ hp6]
    match j, hj with
    | 0, _ => rfl
    | 1, _ => rfl
    | 2, _ => rfl
    | 3, _ => rfl
    | 4, _ => rfl
    | 5, _ => rfl
    | 6, _ => rfl
    | 7, _ => rfl
    | 8, _ => rfl⟩
  obtain ⟨P, hP⟩ : ∃ P : Nat → Prop, P = fun x => x = p ∨ L.own x := ⟨_, rfl⟩
  have hDk := HM.out.dk
  have nq : ∀ x, w.heap.size ≤ x → ¬ P x := fun x hx => by
    rw [hP]
    rintro (e | e)
    · omega
    · exact absurd (hDk.lt e) (by omega)
  have q6 : ¬ P w.heap.size := nq _ (Nat.le_refl _)
  have qd : ¬ P gd := nq _ (by omega)
  have HPq := Lib.hid hP
  clear hP nq
  obtain ⟨a9, ha9⟩ : ∃ q, 2 + (side * wl.c.n + ahead.used) = q := ⟨_, rfl⟩
  have ha9b : a9 ≤ 1000000 := by
    have : side * wl.c.n ≤ 1000 := by rcases (show side = 0 ∨ side = 1 by omega) with e | e <;> rw [e] <;> omega
    omega
  have HAt : Hid (∀ w', Calls Tryd.prog 42 #[.agg (CR wl.c), U4 side, U4 ahead.used] w' (Post w' (I (a9 : Int)))) := Lib.hid fun w' => by
    have := at_any wl.c side ahead.used h3 h1 h2 w'
    rwa [ha9] at this
  rw [ha9] at HR
  obtain ⟨cN, hcN⟩ : ∃ cN, nextC HW wl.c side ahead.used ahead.all ahead.mark b = cN := ⟨_, rfl⟩
  rw [hcN] at HR d4 hbd
  have HcN := Lib.hid hcN
  have hg2 : b.length ≤ 50000 := by rw [HN.out]; exact g2
  have HSh : Hid (∀ w', Ex W6 w' → Calls Tryd.prog 38 #[.slice a n c] w' (fun e w2 => ∃ v', e = .returned v' ∧ w2.ownsRow w'.heap.size 75 64 v' (sheetB b).length ((sheetB b).flatMap KK) ∧ ∃ X, w2 = wx w' X)) := Lib.hid fun w' kk => by
    have hv := HTy.out.slt.ex (ex_trans hw6 kk)
    rw [HN.out] at hv
    exact sheet_any hv hg2
  have HWs := Lib.hid fun w' (lv : Value) (h : lv.oneCell' = true) => writes_any p a9 lv h w'
  have HHf := Lib.hid fun w' => headf_any p cN w'
  have HEx : Hid (∀ W, Ex W6 W → ∀ k, k < W6.heap.size → ¬ P k → W.heap[k]? = W6.heap[k]?) := Lib.hid fun W kW k h1 _ => (ex_below kW).block k h1
  have hcNB : CmB cN := by
    rw [← HcN.out]
    exact ⟨by show wl.c.turn + 1 < _; omega, by show wl.c.n < _; omega, by show side < _; omega, by show ahead.used + secs b.length < _; rw [HN.out, HK.out]; omega, by show ahead.all + 1 < _; omega, HW_len _⟩
  have HAl : Hid (∀ (X : More) (lv : Value) (Z : Nat), (wx W6 X).ownsRow Z 75 64 lv (sheetB b).length ((sheetB b).flatMap KK) → W6.heap.size ≤ Z → Calls Tryd.prog 35 #[.slice (some ⟨(wx W6 X).heap.size + 1 + 1 + 1 + 1 + 1, 0, none⟩) 3 3] (ptW (wx W6 X) p a9 lv cN L.p) (PostPt p L (ptW (wx W6 X) p a9 lv cN L.p) cN wl.c (layD HW d a9 b cN) sv wl.br)) := Lib.hid fun X lv Z hx hz =>
    put_all G (ex_trans k0 hw6) (hDk.ex hw6) (show Ex W6 (wx W6 X) from ⟨X, rfl⟩) p a9 cN wl.c b sv lv wl.br hcNB hp6 HM.out.po (SlV1.of_own KK_len (by omega) hx) (fun g hg => ⟨Nat.le_trans hz (World.ownsRow.lt hx g hg).1, (World.ownsRow.lt hx g hg).2⟩) hg2 ha9b hops hq ho
  have HPo : Hid (∀ (X : More) (lv : Value) (L2 : Loc) (w5 : World), Wv p L (ptW (wx W6 X) p a9 lv cN L.p) L2 w5 → ∀ k, k < W6.heap.size → ¬ P k → w5.heap[k]? = W6.heap[k]?) := Lib.hid fun X lv L2 w5 hv k h1 h2 => by
    have kW : Ex W6 (ptW (wx W6 X) p a9 lv cN L.p) := ex_trans ⟨X, rfl⟩ (pt_blocks (wx W6 X) p a9 lv cN L.p).1
    rw [HPq.out] at h2
    exact (hv.fr.same k (Nat.lt_of_lt_of_le h1 (ex_size kW)) h2).trans ((ex_below kW).block k h1)
  have HVw : Hid (∀ (X : More) (lv : Value) (L2 : Loc) (w5 : World), Wv p L (ptW (wx W6 X) p a9 lv cN L.p) L2 w5 → Wv p L W6 L2 w5) := Lib.hid fun X lv L2 w5 hv =>
    (Wv.ofDv (Dv.ofEx (ex_trans (show Ex W6 (wx W6 X) from ⟨X, rfl⟩) (pt_blocks (wx W6 X) p a9 lv cN L.p).1))).trans hv
  unfold ptW valF at HAl HPo HVw
  simp only [wx_size] at HAl HPo HVw
  unfold valF at HWs HHf
  clear HDg HMk HCR HSc c0 c1 c9 c11 hcN ha9
  go_wp2
  go_simp
  refine wp_mid (fun a0 a' w' => midQ p L W6 (layD HW d a9 b cN) cN wl.c sv wl.br [69, 70, 71, 72, 73, 74, 75, 76, 77, 78, 79, 80, 81, 82, 83, 84, 85, 86, 87, 88, 89, 90, 11] a0 a' w') ?_ ?_
  · refine wp_region_forkH (fun w' => ∃ X, w' = kp W6 P X) (.look 0 (.look 1 (.look 2 (.look 3 (.look 5 (.look 6 (.look 7 (.look 9 (.look 12 (.look 13 (.look 14 (.look 17 (.look 18 (.fork 4 (.fork 8 (.fork 10 (.fork 11 (.fork 15 (.look 16 (.eff 19 (.eff 20 (.eff 21 (.look 22 .done))))) 19 (.eff 15 (.look 16 (.eff 20 (.eff 21 (.look 22 .done)))))) 15 (.look 16 (.eff 11 (.eff 19 (.eff 20 (.eff 21 (.look 22 .done))))))) 15 (.look 16 (.eff 10 (.eff 11 (.eff 19 (.eff 20 (.eff 21 (.look 22 .done)))))))) 15 (.look 16 (.eff 8 (.eff 10 (.eff 11 (.eff 19 (.eff 20 (.eff 21 (.look 22 .done))))))))) 15 (.look 16 (.eff 4 (.eff 8 (.eff 10 (.eff 11 (.eff 19 (.eff 20 (.eff 21 (.look 22 .done))))))))))))))))))))))) (⟨_, kp_of (fun _ _ _ => rfl)⟩) (by kernel_rfl) (by kernel_rfl) (fun _ _ d _ _ h => by cases d <;> exact h) ?_
    simp only [Fk.ops, nth]
    repeat (first | ((with_reducible refine wpForkH_look ?_); go_big_quiet_step (fail); (try (with_reducible refine wpQuiet_nil ?_))) | (with_reducible refine wpForkH_eff ?_) | ((with_reducible refine effH_F ?_ ?_); (focus rfl); go_simp) | ((with_reducible refine effH_T ?_ ?_); (focus rfl); (try dsimp only); go_wp2_with (first | (go_at_call 42; (with_reducible refine (HAt.out _).mono ?_); rintro e w7 ⟨rfl, X7, rfl⟩) | (go_at_call 38; (with_reducible refine (HSh.out _ (by (try show Ex _ _); with_reducible repeat (first | exact ex_refl _ | assumption | refine ex_drewL ?_ | refine ex_appR ?_ _ | refine ex_wx ?_ _ | refine ex_drew ?_ | refine ex_alloc ?_ _))).mono ?_); rintro e w8 ⟨lv, rfl, hlv, X8, rfl⟩; obtain ⟨al, cl, rfl, _⟩ := own_form9 hlv; replace hlv := Lib.hid hlv) | (go_at_call 36; (with_reducible refine (HWs.out _ _ rfl).mono ?_); rintro e w4 ⟨rfl, rfl⟩) | (go_at_call 39; (with_reducible refine (HHf.out _).mono ?_); rintro e w4 ⟨rfl, rfl⟩) | (go_at_call 35; simp only [← More.app_len]; (refine (HAl.out _ _ _ (by first | exact hlv.out | (rw [← wx_wx]; exact hlv.out)) (by first | exact Nat.le_refl _ | exact ex_size ⟨_, rfl⟩)).mono ?_); rintro e w5 ⟨L2, rfl, hD5, hV5, hp5⟩; replace hD5 := Lib.hid hD5; replace hV5 := Lib.hid hV5; replace hp5 := Lib.hid hp5)); (first | done | refine mixQH_mk (⟨_, kp_of (by first | exact HPo.out _ _ _ _ hV5.out | exact HEx.out _ (by (try show Ex _ _); with_reducible repeat (first | exact ex_refl _ | assumption | refine ex_drewL ?_ | refine ex_appR ?_ _ | refine ex_wx ?_ _ | refine ex_drew ?_ | refine ex_alloc ?_ _)))⟩) ?_)))
    all_goals (try (with_reducible refine wpForkH_fork ?_ ?_))
    all_goals repeat (first | ((with_reducible refine wpForkH_look ?_); go_big_quiet_step (fail); (try (with_reducible refine wpQuiet_nil ?_))) | (with_reducible refine wpForkH_eff ?_) | ((with_reducible refine effH_F ?_ ?_); (focus rfl); go_simp) | ((with_reducible refine effH_T ?_ ?_); (focus rfl); (try dsimp only); go_wp2_with (first | (go_at_call 42; (with_reducible refine (HAt.out _).mono ?_); rintro e w7 ⟨rfl, X7, rfl⟩) | (go_at_call 38; (with_reducible refine (HSh.out _ (by (try show Ex _ _); with_reducible repeat (first | exact ex_refl _ | assumption | refine ex_drewL ?_ | refine ex_appR ?_ _ | refine ex_wx ?_ _ | refine ex_drew ?_ | refine ex_alloc ?_ _))).mono ?_); rintro e w8 ⟨lv, rfl, hlv, X8, rfl⟩; obtain ⟨al, cl, rfl, _⟩ := own_form9 hlv; replace hlv := Lib.hid hlv) | (go_at_call 36; (with_reducible refine (HWs.out _ _ rfl).mono ?_); rintro e w4 ⟨rfl, rfl⟩) | (go_at_call 39; (with_reducible refine (HHf.out _).mono ?_); rintro e w4 ⟨rfl, rfl⟩) | (go_at_call 35; simp only [← More.app_len]; (refine (HAl.out _ _ _ (by first | exact hlv.out | (rw [← wx_wx]; exact hlv.out)) (by first | exact Nat.le_refl _ | exact ex_size ⟨_, rfl⟩)).mono ?_); rintro e w5 ⟨L2, rfl, hD5, hV5, hp5⟩; replace hD5 := Lib.hid hD5; replace hV5 := Lib.hid hV5; replace hp5 := Lib.hid hp5)); (first | done | refine mixQH_mk (⟨_, kp_of (by first | exact HPo.out _ _ _ _ hV5.out | exact HEx.out _ (by (try show Ex _ _); with_reducible repeat (first | exact ex_refl _ | assumption | refine ex_drewL ?_ | refine ex_appR ?_ _ | refine ex_wx ?_ _ | refine ex_drew ?_ | refine ex_alloc ?_ _)))⟩) ?_)))
    all_goals (try (with_reducible refine wpForkH_fork ?_ ?_))
    all_goals repeat (first | ((with_reducible refine wpForkH_look ?_); go_big_quiet_step (fail); (try (with_reducible refine wpQuiet_nil ?_))) | (with_reducible refine wpForkH_eff ?_) | ((with_reducible refine effH_F ?_ ?_); (focus rfl); go_simp) | ((with_reducible refine effH_T ?_ ?_); (focus rfl); (try dsimp only); go_wp2_with (first | (go_at_call 42; (with_reducible refine (HAt.out _).mono ?_); rintro e w7 ⟨rfl, X7, rfl⟩) | (go_at_call 38; (with_reducible refine (HSh.out _ (by (try show Ex _ _); with_reducible repeat (first | exact ex_refl _ | assumption | refine ex_drewL ?_ | refine ex_appR ?_ _ | refine ex_wx ?_ _ | refine ex_drew ?_ | refine ex_alloc ?_ _))).mono ?_); rintro e w8 ⟨lv, rfl, hlv, X8, rfl⟩; obtain ⟨al, cl, rfl, _⟩ := own_form9 hlv; replace hlv := Lib.hid hlv) | (go_at_call 36; (with_reducible refine (HWs.out _ _ rfl).mono ?_); rintro e w4 ⟨rfl, rfl⟩) | (go_at_call 39; (with_reducible refine (HHf.out _).mono ?_); rintro e w4 ⟨rfl, rfl⟩) | (go_at_call 35; simp only [← More.app_len]; (refine (HAl.out _ _ _ (by first | exact hlv.out | (rw [← wx_wx]; exact hlv.out)) (by first | exact Nat.le_refl _ | exact ex_size ⟨_, rfl⟩)).mono ?_); rintro e w5 ⟨L2, rfl, hD5, hV5, hp5⟩; replace hD5 := Lib.hid hD5; replace hV5 := Lib.hid hV5; replace hp5 := Lib.hid hp5)); (first | done | refine mixQH_mk (⟨_, kp_of (by first | exact HPo.out _ _ _ _ hV5.out | exact HEx.out _ (by (try show Ex _ _); with_reducible repeat (first | exact ex_refl _ | assumption | refine ex_drewL ?_ | refine ex_appR ?_ _ | refine ex_wx ?_ _ | refine ex_drew ?_ | refine ex_alloc ?_ _)))⟩) ?_)))
    all_goals (try (with_reducible refine wpForkH_fork ?_ ?_))
    all_goals repeat (first | ((with_reducible refine wpForkH_look ?_); go_big_quiet_step (fail); (try (with_reducible refine wpQuiet_nil ?_))) | (with_reducible refine wpForkH_eff ?_) | ((with_reducible refine effH_F ?_ ?_); (focus rfl); go_simp) | ((with_reducible refine effH_T ?_ ?_); (focus rfl); (try dsimp only); go_wp2_with (first | (go_at_call 42; (with_reducible refine (HAt.out _).mono ?_); rintro e w7 ⟨rfl, X7, rfl⟩) | (go_at_call 38; (with_reducible refine (HSh.out _ (by (try show Ex _ _); with_reducible repeat (first | exact ex_refl _ | assumption | refine ex_drewL ?_ | refine ex_appR ?_ _ | refine ex_wx ?_ _ | refine ex_drew ?_ | refine ex_alloc ?_ _))).mono ?_); rintro e w8 ⟨lv, rfl, hlv, X8, rfl⟩; obtain ⟨al, cl, rfl, _⟩ := own_form9 hlv; replace hlv := Lib.hid hlv) | (go_at_call 36; (with_reducible refine (HWs.out _ _ rfl).mono ?_); rintro e w4 ⟨rfl, rfl⟩) | (go_at_call 39; (with_reducible refine (HHf.out _).mono ?_); rintro e w4 ⟨rfl, rfl⟩) | (go_at_call 35; simp only [← More.app_len]; (refine (HAl.out _ _ _ (by first | exact hlv.out | (rw [← wx_wx]; exact hlv.out)) (by first | exact Nat.le_refl _ | exact ex_size ⟨_, rfl⟩)).mono ?_); rintro e w5 ⟨L2, rfl, hD5, hV5, hp5⟩; replace hD5 := Lib.hid hD5; replace hV5 := Lib.hid hV5; replace hp5 := Lib.hid hp5)); (first | done | refine mixQH_mk (⟨_, kp_of (by first | exact HPo.out _ _ _ _ hV5.out | exact HEx.out _ (by (try show Ex _ _); with_reducible repeat (first | exact ex_refl _ | assumption | refine ex_drewL ?_ | refine ex_appR ?_ _ | refine ex_wx ?_ _ | refine ex_drew ?_ | refine ex_alloc ?_ _)))⟩) ?_)))
    all_goals (try (with_reducible refine wpForkH_fork ?_ ?_))
    all_goals repeat (first | ((with_reducible refine wpForkH_look ?_); go_big_quiet_step (fail); (try (with_reducible refine wpQuiet_nil ?_))) | (with_reducible refine wpForkH_eff ?_) | ((with_reducible refine effH_F ?_ ?_); (focus rfl); go_simp) | ((with_reducible refine effH_T ?_ ?_); (focus rfl); (try dsimp only); go_wp2_with (first | (go_at_call 42; (with_reducible refine (HAt.out _).mono ?_); rintro e w7 ⟨rfl, X7, rfl⟩) | (go_at_call 38; (with_reducible refine (HSh.out _ (by (try show Ex _ _); with_reducible repeat (first | exact ex_refl _ | assumption | refine ex_drewL ?_ | refine ex_appR ?_ _ | refine ex_wx ?_ _ | refine ex_drew ?_ | refine ex_alloc ?_ _))).mono ?_); rintro e w8 ⟨lv, rfl, hlv, X8, rfl⟩; obtain ⟨al, cl, rfl, _⟩ := own_form9 hlv; replace hlv := Lib.hid hlv) | (go_at_call 36; (with_reducible refine (HWs.out _ _ rfl).mono ?_); rintro e w4 ⟨rfl, rfl⟩) | (go_at_call 39; (with_reducible refine (HHf.out _).mono ?_); rintro e w4 ⟨rfl, rfl⟩) | (go_at_call 35; simp only [← More.app_len]; (refine (HAl.out _ _ _ (by first | exact hlv.out | (rw [← wx_wx]; exact hlv.out)) (by first | exact Nat.le_refl _ | exact ex_size ⟨_, rfl⟩)).mono ?_); rintro e w5 ⟨L2, rfl, hD5, hV5, hp5⟩; replace hD5 := Lib.hid hD5; replace hV5 := Lib.hid hV5; replace hp5 := Lib.hid hp5)); (first | done | refine mixQH_mk (⟨_, kp_of (by first | exact HPo.out _ _ _ _ hV5.out | exact HEx.out _ (by (try show Ex _ _); with_reducible repeat (first | exact ex_refl _ | assumption | refine ex_drewL ?_ | refine ex_appR ?_ _ | refine ex_wx ?_ _ | refine ex_drew ?_ | refine ex_alloc ?_ _)))⟩) ?_)))
    all_goals (try (with_reducible refine wpForkH_fork ?_ ?_))
    all_goals repeat (first | ((with_reducible refine wpForkH_look ?_); go_big_quiet_step (fail); (try (with_reducible refine wpQuiet_nil ?_))) | (with_reducible refine wpForkH_eff ?_) | ((with_reducible refine effH_F ?_ ?_); (focus rfl); go_simp) | ((with_reducible refine effH_T ?_ ?_); (focus rfl); (try dsimp only); go_wp2_with (first | (go_at_call 42; (with_reducible refine (HAt.out _).mono ?_); rintro e w7 ⟨rfl, X7, rfl⟩) | (go_at_call 38; (with_reducible refine (HSh.out _ (by (try show Ex _ _); with_reducible repeat (first | exact ex_refl _ | assumption | refine ex_drewL ?_ | refine ex_appR ?_ _ | refine ex_wx ?_ _ | refine ex_drew ?_ | refine ex_alloc ?_ _))).mono ?_); rintro e w8 ⟨lv, rfl, hlv, X8, rfl⟩; obtain ⟨al, cl, rfl, _⟩ := own_form9 hlv; replace hlv := Lib.hid hlv) | (go_at_call 36; (with_reducible refine (HWs.out _ _ rfl).mono ?_); rintro e w4 ⟨rfl, rfl⟩) | (go_at_call 39; (with_reducible refine (HHf.out _).mono ?_); rintro e w4 ⟨rfl, rfl⟩) | (go_at_call 35; simp only [← More.app_len]; (refine (HAl.out _ _ _ (by first | exact hlv.out | (rw [← wx_wx]; exact hlv.out)) (by first | exact Nat.le_refl _ | exact ex_size ⟨_, rfl⟩)).mono ?_); rintro e w5 ⟨L2, rfl, hD5, hV5, hp5⟩; replace hD5 := Lib.hid hD5; replace hV5 := Lib.hid hV5; replace hp5 := Lib.hid hp5)); (first | done | refine mixQH_mk (⟨_, kp_of (by first | exact HPo.out _ _ _ _ hV5.out | exact HEx.out _ (by (try show Ex _ _); with_reducible repeat (first | exact ex_refl _ | assumption | refine ex_drewL ?_ | refine ex_appR ?_ _ | refine ex_wx ?_ _ | refine ex_drew ?_ | refine ex_alloc ?_ _)))⟩) ?_)))
    all_goals (with_reducible refine wpForkH_nil ?_)
    all_goals refine midQ_mk rfl (by kernel_rfl) hD5.out (HVw.out _ _ _ _ hV5.out) hp5.out
  rintro a0 W7 ⟨L2, g8, ha0, hD5, hV5, hp5⟩
  simp only [List.foldl] at ha0
  rw [g8] at ha0
  clear g8
  generalize a0.tmps.getD 69 undef = u69 at ha0
  generalize a0.tmps.getD 70 undef = u70 at ha0
  generalize a0.tmps.getD 71 undef = u71 at ha0
  generalize a0.tmps.getD 72 undef = u72 at ha0
  generalize a0.tmps.getD 73 undef = u73 at ha0
  generalize a0.tmps.getD 74 undef = u74 at ha0
  generalize a0.tmps.getD 75 undef = u75 at ha0
  generalize a0.tmps.getD 76 undef = u76 at ha0
  generalize a0.tmps.getD 77 undef = u77 at ha0
  generalize a0.tmps.getD 78 undef = u78 at ha0
  generalize a0.tmps.getD 79 undef = u79 at ha0
  generalize a0.tmps.getD 80 undef = u80 at ha0
  generalize a0.tmps.getD 81 undef = u81 at ha0
  generalize a0.tmps.getD 82 undef = u82 at ha0
  generalize a0.tmps.getD 83 undef = u83 at ha0
  generalize a0.tmps.getD 84 undef = u84 at ha0
  generalize a0.tmps.getD 85 undef = u85 at ha0
  generalize a0.tmps.getD 86 undef = u86 at ha0
  generalize a0.tmps.getD 87 undef = u87 at ha0
  generalize a0.tmps.getD 88 undef = u88 at ha0
  generalize a0.tmps.getD 89 undef = u89 at ha0
  generalize a0.tmps.getD 90 undef = u90 at ha0
  subst ha0
  have z7 := (Array.getElem?_eq_some_iff.1 hp5).1
  obtain ⟨r, hr⟩ : ∃ r, layD HW d a9 b cN = r := ⟨_, rfl⟩
  rw [hr] at hD5 hp5 ⊢
  have HRr := Lib.hid hr
  obtain ⟨d1, er⟩ := r
  dsimp only at hD5 hp5 ⊢
  have HP5 := Lib.hid hp5
  have HV5 := Lib.hid hV5
  have HD5 := Lib.hid hD5
  clear hr hp5 hV5 hD5 HAl HPo HVw HWs HHf HSh HAt HEx d3 d4 p9 pc
  have n2p : ¬ L2.own p := fun e => (HV5.out.own e).elim HM.out.po (fun e2 => by omega)
  have s11 := block_cellF (o := 11) (v := .bool wl.br) HP5.out (by split <;> rfl)
  rw [g1] at s11
  obtain ⟨s11, f11⟩ := s11
  have hb7 := (HV5.out.fr.same _ z6 (fun e => q6 (by rw [HPq.out]; exact e))).trans hb6
  have z7w := (Array.getElem?_eq_some_iff.1 hb7).1
  have HB7 := Lib.hid hb7
  have hVw := Lib.hid ((Wv.ofDv (p := p) (Dv.ofEx (L := L) hw6)).trans HV5.out)
  clear hb7
  have hky : Hid (∀ v, Ky w (W7.setCell ⟨p, 11, none⟩ v)) := Lib.hid fun v => Ky.trans (hVw.out.ky hDk hp) (Ky.setP HP5.out 11 v)
  by_cases he : er = 0
  · subst he
    have HP6 := HP5.out
    rw [if_pos rfl] at HP6
    replace HP6 := Lib.hid HP6
    go_wp2
    have hcl := block_cellF (o := 10) (v := sv) HP6.out rfl
    obtain ⟨A, hA⟩ : ∃ A, W7.setCell ⟨p, 11, none⟩ (.bool false) = A := ⟨_, rfl⟩
    have kyA : Ky w A := by rw [← hA]; exact hky.out _
    have hpA : A.heap[p]? = some (.cells (WR cN L.p sv false) 64 (0, 0)) := by
      rw [← hA, setCell_block (.bool false) HP6.out]; rfl
    have hbA : A.heap[w.heap.size]? = some (.cells (CR ahead) 62 (0, 0)) := by
      rw [← hA]; exact (setCell_heap _ (by omega)).trans HB7.out
    have hdA : DkAt A L2 d1 := by rw [← hA]; exact HD5.out.setP n2p 11 _
    have hvA : Wv p L w L2 A := by rw [← hA]; exact hVw.out.set 11 _
    have hSA := SlSh.ky Hsv.out kyA
    have hTA := TyB.ky HTy.out kyA
    rw [hA]
    obtain ⟨sa, sc, rfl, sl1, sl2, _, _⟩ := Hsv.out.out
    obtain ⟨gs, os, rfl, hgs, _⟩ := hSA.at (j := 0) (by omega)
    obtain ⟨olds, ol1, ol2, ol3⟩ := hSA.olds h4
    have c10 := (block_cellF (o := 10) (v := .slice (some ⟨gs, os, none⟩) wl.sh.length sc) hpA rfl).1
    have f10 := (block_cellF (o := 10) (v := .slice (some ⟨gs, os, none⟩) wl.sh.length sc) hpA rfl).2
    have b4 := (block_cellF (o := 4) (v := U4 ahead.all) hbA rfl).1
    have zpA := (Array.getElem?_eq_some_iff.1 hpA).1
    have zbA := (Array.getElem?_eq_some_iff.1 hbA).1
    have HCl : Hid (∀ w', Ex A w' → Calls Tryd.prog 46 #[.slice a n c] w' (PostTb w' b)) := Lib.hid fun w' k => by
      have := cloneW_any (hTA.slt.ex k) hg2
      rw [HN.out] at this; exact this
    have HOl : Hid (∀ w', Ex A w' → ∀ (bb : Addr), some (⟨gs, os, none⟩ : Addr) = some bb → ∀ (j : Nat) (u : Value), olds[j]? = some u → w'.cell? (bb.add j) = some u) := Lib.hid fun w' k bb e j u hj => by
      cases e
      have h9 := ol2 j u hj
      rw [Addr.add_lit] at h9 ⊢
      obtain ⟨X, rfl⟩ := k
      rw [wx_cell _ _ _ hgs]; exact h9
    have q10 : (ahead.all : Int) ≤ sc := by omega
    have q11 : ahead.all ≤ sc := by omega
    unfold maxLen at sl2
    have HSA := Lib.hid hSA
    have HHp := Lib.hid hpA
    have HDA := Lib.hid hdA
    have HVA := Lib.hid hvA
    have Hol1 := Lib.hid ol1
    have Hol3 := Lib.hid ol3
    have nwp : w.heap.size ≠ p := by omega
    clear hA hSA hTA kyA hpA hbA hdA hvA ol1 ol2 ol3 HP6 HP5 HD5 HV5 hVw hky HB7 hcl s11 f11 z7 z7w hp6 hb6 hbd zd z6 zp6 hp hw6 zp sl1
    obtain ⟨P1, hP1⟩ : ∃ P1 : Nat → Prop, P1 = fun x => x = p := ⟨_, rfl⟩
    have nw1 : ¬ P1 w.heap.size := by rw [hP1]; exact nwp
    have HP1 : Hid (∀ x, ¬ P1 x → x ≠ p) := Lib.hid (by rw [hP1]; exact fun x hx => hx)
    clear hP1
    refine wp_region_forkH (fun w' => ∃ X, w' = kp A P1 X) (.look 0 (.look 1 (.look 2 (.look 3 (.look 5 (.look 6 (.look 7 (.look 8 (.look 10 (.fork 4 (.look 9 (.eff 11 (.eff 12 (.eff 13 (.look 14 (.look 15 (.eff 16 .done))))))) 11 (.fork 4 (.look 9 (.eff 12 (.eff 13 (.look 14 (.look 15 (.eff 16 .done)))))) 12 (.eff 4 (.look 9 (.eff 13 (.look 14 (.look 15 (.eff 16 .done))))))))))))))))) (⟨_, kp_of (fun _ _ _ => rfl)⟩) (by kernel_rfl) (by kernel_rfl) (fun _ _ d _ _ h => by cases d <;> exact h) ?_
    simp only [Fk.ops, nth]
    repeat (first | ((with_reducible refine wpForkH_look ?_); go_big_quiet_step (fail); (try (with_reducible refine wpQuiet_nil ?_))) | (with_reducible refine wpForkH_eff ?_) | ((with_reducible refine effH_F ?_ ?_); (focus rfl); go_simp) | ((with_reducible refine effH_T ?_ ?_); (focus rfl); (try dsimp only); go_wp2_with (first | (go_at_call 46; (with_reducible refine (HCl.out _ (by (try show Ex _ _); with_reducible repeat (first | exact ex_refl _ | assumption | refine ex_drewL ?_ | refine ex_appR ?_ _ | refine ex_wx ?_ _ | refine ex_drew ?_ | refine ex_alloc ?_ _))).mono ?_); rintro e w7 ⟨lv, rfl, hlv, X7, rfl⟩; obtain ⟨al, cl, rfl, _⟩ := hlv.out; replace hlv := Lib.hid hlv) | (at_builtin; refine wpAppSh (u := .slice al b.length cl) (ao := some ⟨gs, os, none⟩) (n := ahead.all) (olds := olds) _ _ rfl rfl rfl (fun e => by cases e) Hol1.out (HOl.out _ (by (try show Ex _ _); with_reducible repeat (first | exact ex_refl _ | assumption | refine ex_drewL ?_ | refine ex_appR ?_ _ | refine ex_wx ?_ _ | refine ex_drew ?_ | refine ex_alloc ?_ _))) rfl (by simp [go_sem]) rfl (by omega) (fun v9 w9 hown hX => ?_); obtain ⟨X9, rfl⟩ := hX; obtain ⟨a9', c9', rfl, _⟩ := own_form9 hown; replace hown := Lib.hid hown)); (first | done | refine mixQH_mk (⟨_, kp_of (by intro x hx hp9; first | (refine (ex_below (?_ : Ex A _)).block x hx; (with_reducible repeat (first | exact ex_refl _ | assumption | refine ex_drewL ?_ | refine ex_appR ?_ _ | refine ex_wx ?_ _ | refine ex_drew ?_ | refine ex_alloc ?_ _)); done) | (refine ((ex_below (?_ : Ex (A.setCell ⟨p, 10, none⟩ (.slice a9' (ahead.all + 1) c9')) _)).block x (by simpa [World.setCell] using hx)).trans (setCell_heap _ (HP1.out x hp9)); (with_reducible repeat (first | exact ex_refl _ | assumption | refine ex_drewL ?_ | refine ex_appR ?_ _ | refine ex_wx ?_ _ | refine ex_drew ?_ | refine ex_alloc ?_ _)); done))⟩) ?_)))
    all_goals (try (with_reducible refine wpForkH_fork ?_ ?_))
    all_goals repeat (first | ((with_reducible refine wpForkH_look ?_); go_big_quiet_step (fail); (try (with_reducible refine wpQuiet_nil ?_))) | (with_reducible refine wpForkH_eff ?_) | ((with_reducible refine effH_F ?_ ?_); (focus rfl); go_simp) | ((with_reducible refine effH_T ?_ ?_); (focus rfl); (try dsimp only); go_wp2_with (first | (go_at_call 46; (with_reducible refine (HCl.out _ (by (try show Ex _ _); with_reducible repeat (first | exact ex_refl _ | assumption | refine ex_drewL ?_ | refine ex_appR ?_ _ | refine ex_wx ?_ _ | refine ex_drew ?_ | refine ex_alloc ?_ _))).mono ?_); rintro e w7 ⟨lv, rfl, hlv, X7, rfl⟩; obtain ⟨al, cl, rfl, _⟩ := hlv.out; replace hlv := Lib.hid hlv) | (at_builtin; refine wpAppSh (u := .slice al b.length cl) (ao := some ⟨gs, os, none⟩) (n := ahead.all) (olds := olds) _ _ rfl rfl rfl (fun e => by cases e) Hol1.out (HOl.out _ (by (try show Ex _ _); with_reducible repeat (first | exact ex_refl _ | assumption | refine ex_drewL ?_ | refine ex_appR ?_ _ | refine ex_wx ?_ _ | refine ex_drew ?_ | refine ex_alloc ?_ _))) rfl (by simp [go_sem]) rfl (by omega) (fun v9 w9 hown hX => ?_); obtain ⟨X9, rfl⟩ := hX; obtain ⟨a9', c9', rfl, _⟩ := own_form9 hown; replace hown := Lib.hid hown)); (first | done | refine mixQH_mk (⟨_, kp_of (by intro x hx hp9; first | (refine (ex_below (?_ : Ex A _)).block x hx; (with_reducible repeat (first | exact ex_refl _ | assumption | refine ex_drewL ?_ | refine ex_appR ?_ _ | refine ex_wx ?_ _ | refine ex_drew ?_ | refine ex_alloc ?_ _)); done) | (refine ((ex_below (?_ : Ex (A.setCell ⟨p, 10, none⟩ (.slice a9' (ahead.all + 1) c9')) _)).block x (by simpa [World.setCell] using hx)).trans (setCell_heap _ (HP1.out x hp9)); (with_reducible repeat (first | exact ex_refl _ | assumption | refine ex_drewL ?_ | refine ex_appR ?_ _ | refine ex_wx ?_ _ | refine ex_drew ?_ | refine ex_alloc ?_ _)); done))⟩) ?_)))
    all_goals (try (with_reducible refine wpForkH_fork ?_ ?_))
    all_goals repeat (first | ((with_reducible refine wpForkH_look ?_); go_big_quiet_step (fail); (try (with_reducible refine wpQuiet_nil ?_))) | (with_reducible refine wpForkH_eff ?_) | ((with_reducible refine effH_F ?_ ?_); (focus rfl); go_simp) | ((with_reducible refine effH_T ?_ ?_); (focus rfl); (try dsimp only); go_wp2_with (first | (go_at_call 46; (with_reducible refine (HCl.out _ (by (try show Ex _ _); with_reducible repeat (first | exact ex_refl _ | assumption | refine ex_drewL ?_ | refine ex_appR ?_ _ | refine ex_wx ?_ _ | refine ex_drew ?_ | refine ex_alloc ?_ _))).mono ?_); rintro e w7 ⟨lv, rfl, hlv, X7, rfl⟩; obtain ⟨al, cl, rfl, _⟩ := hlv.out; replace hlv := Lib.hid hlv) | (at_builtin; refine wpAppSh (u := .slice al b.length cl) (ao := some ⟨gs, os, none⟩) (n := ahead.all) (olds := olds) _ _ rfl rfl rfl (fun e => by cases e) Hol1.out (HOl.out _ (by (try show Ex _ _); with_reducible repeat (first | exact ex_refl _ | assumption | refine ex_drewL ?_ | refine ex_appR ?_ _ | refine ex_wx ?_ _ | refine ex_drew ?_ | refine ex_alloc ?_ _))) rfl (by simp [go_sem]) rfl (by omega) (fun v9 w9 hown hX => ?_); obtain ⟨X9, rfl⟩ := hX; obtain ⟨a9', c9', rfl, _⟩ := own_form9 hown; replace hown := Lib.hid hown)); (first | done | refine mixQH_mk (⟨_, kp_of (by intro x hx hp9; first | (refine (ex_below (?_ : Ex A _)).block x hx; (with_reducible repeat (first | exact ex_refl _ | assumption | refine ex_drewL ?_ | refine ex_appR ?_ _ | refine ex_wx ?_ _ | refine ex_drew ?_ | refine ex_alloc ?_ _)); done) | (refine ((ex_below (?_ : Ex (A.setCell ⟨p, 10, none⟩ (.slice a9' (ahead.all + 1) c9')) _)).block x (by simpa [World.setCell] using hx)).trans (setCell_heap _ (HP1.out x hp9)); (with_reducible repeat (first | exact ex_refl _ | assumption | refine ex_drewL ?_ | refine ex_appR ?_ _ | refine ex_wx ?_ _ | refine ex_drew ?_ | refine ex_alloc ?_ _)); done))⟩) ?_)))
    all_goals (with_reducible refine wpForkH_nil ?_)
    all_goals
      go_wp2
      go_ret
      rw [HR.out, HRr.out, if_pos rfl]
      obtain ⟨q1, q2⟩ := put_fin HDA.out HVA.out HHp.out n2p (show Ex A _ from (by (try show Ex _ _); with_reducible repeat (first | exact ex_refl _ | assumption | refine ex_drewL ?_ | refine ex_appR ?_ _ | refine ex_wx ?_ _ | refine ex_drew ?_ | refine ex_alloc ?_ _))) hown.out h4 Hol1.out Hol3.out (hlv.out.ky (Ky.ex (show Ex (wx A X7) _ from (by (try show Ex _ _); with_reducible repeat (first | exact ex_refl _ | assumption | refine ex_drewL ?_ | refine ex_appR ?_ _ | refine ex_wx ?_ _ | refine ex_drew ?_ | refine ex_alloc ?_ _))))) (ex_refl _)
      exact ⟨L2, rfl, (congrArg (fun W => LgM W p L2 d1 ⟨cN, wl.sh.take ahead.all ++ [b], false⟩) (by simp [go_sem, zpA])).mp q1, (congrArg (fun W => Wv p L w L2 W) (by simp [go_sem, zpA])).mp q2⟩
  · have he2 : (er == 0) = false := beq_eq_false_iff_ne.2 he
    have he3 : (er != 0) = true := by simp [he]
    go_wp2
    go_ret
    rw [HR.out, HRr.out, if_neg he]
    have h8 := setCell_block (o := 11) (.bool true) HP5.out
    rw [if_neg he, ← HV5.out.pp] at h8
    exact ⟨L2, rfl, ⟨HD5.out.setP n2p 11 _, ⟨sv, h8, SlSh.ky Hsv.out (hky.out _)⟩, n2p⟩, hVw.out.set 11 _⟩
end Go.Proofs.YtabjamkkhlbajaaDoor

/- The log: Append, Checkpoint; what is asked of a log; the nil log. -/
set_option linter.unusedSimpArgs false
set_option linter.unusedVariables false
set_option linter.unnecessarySimpa false
set_option maxRecDepth 20000
namespace Go.Proofs.YtabjamkkhlbajaaDoor
open Go.RowKit
theorem lenw_nil (w : World) : Calls Tryd.prog 16 #[.pointer none] w (Post w (I 0)) := by
  go_enter Tryd.func16, Tryd.ntmps16
  go_wp2
  go_ret
  exact post_mk' rfl (by (try show Ex _ _); with_reducible repeat (first | exact ex_refl _ | assumption | refine ex_drewL ?_ | refine ex_appR ?_ _ | refine ex_wx ?_ _ | refine ex_drew ?_ | refine ex_alloc ?_ _))
theorem leftw_nil (w : World) : Calls Tryd.prog 17 #[.pointer none] w (Post w (I 0)) := by
  go_enter Tryd.func17, Tryd.ntmps17
  go_wp2
  go_ret
  exact post_mk' rfl (by (try show Ex _ _); with_reducible repeat (first | exact ex_refl _ | assumption | refine ex_drewL ?_ | refine ex_appR ?_ _ | refine ex_wx ?_ _ | refine ex_drew ?_ | refine ex_alloc ?_ _))
theorem turnw_nil (w : World) : Calls Tryd.prog 18 #[.pointer none] w (Post w (.int .u32 0)) := by
  go_enter Tryd.func18, Tryd.ntmps18
  go_wp2
  go_ret
  exact post_mk' rfl (by (try show Ex _ _); with_reducible repeat (first | exact ex_refl _ | assumption | refine ex_drewL ?_ | refine ex_appR ?_ _ | refine ex_wx ?_ _ | refine ex_drew ?_ | refine ex_alloc ?_ _))
theorem brokenw_nil (w : World) : Calls Tryd.prog 19 #[.pointer none] w (Post w (.bool false)) := by
  go_enter Tryd.func19, Tryd.ntmps19
  go_wp2
  go_ret
  exact post_mk' rfl (by (try show Ex _ _); with_reducible repeat (first | exact ex_refl _ | assumption | refine ex_drewL ?_ | refine ex_appR ?_ _ | refine ex_wx ?_ _ | refine ex_drew ?_ | refine ex_alloc ?_ _))
theorem diskw_nil (w : World) : Calls Tryd.prog 20 #[.pointer none] w (Post w (.pointer none)) := by
  go_enter Tryd.func20, Tryd.ntmps20
  go_wp2
  go_ret
  exact post_mk' rfl (by (try show Ex _ _); with_reducible repeat (first | exact ex_refl _ | assumption | refine ex_drewL ?_ | refine ex_appR ?_ _ | refine ex_wx ?_ _ | refine ex_drew ?_ | refine ex_alloc ?_ _))
theorem snapw_nil (w : World) : Calls Tryd.prog 15 #[.pointer none] w (Post w (.slice none 0 0)) := by
  go_enter Tryd.func15, Tryd.ntmps15
  go_wp2
  go_ret
  exact post_mk' rfl (by (try show Ex _ _); with_reducible repeat (first | exact ex_refl _ | assumption | refine ex_drewL ?_ | refine ex_appR ?_ _ | refine ex_wx ?_ _ | refine ex_drew ?_ | refine ex_alloc ?_ _))
theorem appw_nil (a : Option Addr) (n c : Nat) (w : World) : Calls Tryd.prog 13 #[.pointer none, .slice a n c] w (Post w (I 1)) := by
  go_enter Tryd.func13, Tryd.ntmps13
  go_wp2
  go_ret
  exact post_mk' rfl (by (try show Ex _ _); with_reducible repeat (first | exact ex_refl _ | assumption | refine ex_drewL ?_ | refine ex_appR ?_ _ | refine ex_wx ?_ _ | refine ex_drew ?_ | refine ex_alloc ?_ _))
theorem chkw_nil (a : Option Addr) (n c : Nat) (w : World) : Calls Tryd.prog 14 #[.pointer none, .slice a n c] w (Post w (I 1)) := by
  go_enter Tryd.func14, Tryd.ntmps14
  go_wp2
  go_ret
  exact post_mk' rfl (by (try show Ex _ _); with_reducible repeat (first | exact ex_refl _ | assumption | refine ex_drewL ?_ | refine ex_appR ?_ _ | refine ex_wx ?_ _ | refine ex_drew ?_ | refine ex_alloc ?_ _))
theorem turn_w {w : World} {p : Nat} {L : Loc} {d : Dk} {wl : Wl} (h : LgM w p L d wl) : Calls Tryd.prog 18 #[PT p] w (Post w (U4 wl.c.turn)) := by
  obtain ⟨sv, hp, _⟩ := h.out
  have zp := (Array.getElem?_eq_some_iff.1 hp).1
  have c0 := (block_cellF (o := 0) (v := U4 wl.c.turn) hp rfl).1
  have c9 := (block_cellF (o := 9) (v := PT L.p) hp rfl).1
  have c11 := (block_cellF (o := 11) (v := .bool wl.br) hp rfl).1
  clear h hp
  go_enter Tryd.func18, Tryd.ntmps18
  go_wp2
  go_ret
  exact post_mk' rfl (by (try show Ex _ _); with_reducible repeat (first | exact ex_refl _ | assumption | refine ex_drewL ?_ | refine ex_appR ?_ _ | refine ex_wx ?_ _ | refine ex_drew ?_ | refine ex_alloc ?_ _))
theorem len_w {w : World} {p : Nat} {L : Loc} {d : Dk} {wl : Wl} (h : LgM w p L d wl) : Calls Tryd.prog 16 #[PT p] w (Post w (I ((wl.sh.length : Int) - 1))) := by
  obtain ⟨sv, hp, hs⟩ := h.out
  have zp := (Array.getElem?_eq_some_iff.1 hp).1
  obtain ⟨a, c, rfl, h1, h2, _, _⟩ := hs.out
  have c10 := (block_cellF (o := 10) (v := .slice a wl.sh.length c) hp rfl).1
  unfold maxLen at h2
  clear h hp hs
  go_enter Tryd.func16, Tryd.ntmps16
  go_wp2
  go_ret
  exact post_mk' rfl (by (try show Ex _ _); with_reducible repeat (first | exact ex_refl _ | assumption | refine ex_drewL ?_ | refine ex_appR ?_ _ | refine ex_wx ?_ _ | refine ex_drew ?_ | refine ex_alloc ?_ _))
theorem left_w {w : World} {p : Nat} {L : Loc} {d : Dk} {wl : Wl} (h : LgM w p L d wl) (hu : wl.c.used ≤ wl.c.n) (hn : wl.c.n ≤ 1000) : Calls Tryd.prog 17 #[PT p] w (Post w (I ((wl.c.n : Int) - wl.c.used))) := by
  obtain ⟨sv, hp, hs⟩ := h.out
  have zp := (Array.getElem?_eq_some_iff.1 hp).1
  have c1 := (block_cellF (o := 1) (v := U4 wl.c.n) hp rfl).1
  have c3 := (block_cellF (o := 3) (v := U4 wl.c.used) hp rfl).1
  have e : ((wl.c.n : Int) - wl.c.used) % 4294967296 = wl.c.n - wl.c.used := by omega
  clear h hp hs
  go_enter Tryd.func17, Tryd.ntmps17
  go_wp2
  refine wp_region_seqA (w) [(0, true), (1, true), (2, true), (3, true), (4, true), (5, true), (6, true), (7, true), (8, true), (9, true), (10, true), (11, true), (12, true)] (by (try show Ex _ _); with_reducible repeat (first | exact ex_refl _ | assumption | refine ex_drewL ?_ | refine ex_appR ?_ _ | refine ex_wx ?_ _ | refine ex_drew ?_ | refine ex_alloc ?_ _)) (by kernel_rfl) (by kernel_rfl) (fun _ _ d _ _ h => by cases d <;> exact h) ?_
  simp only [List.map_cons, List.map_nil, nth]
  repeat (first | ((with_reducible refine wpSeq_look ?_); go_big_quiet_step (fail); (with_reducible refine wpQuiet_nil ?_)) | ((with_reducible refine wpSeq_effF ?_ ?_); (focus rfl); go_simp) | ((with_reducible refine wpSeq_eff ?_ ?_); (focus rfl); (try dsimp only); go_wp2_with (fail); refine mixQ_mk (by (try show Ex _ _); with_reducible repeat (first | exact ex_refl _ | assumption | refine ex_drewL ?_ | refine ex_appR ?_ _ | refine ex_wx ?_ _ | refine ex_drew ?_ | refine ex_alloc ?_ _)) ?_))
  refine wpSeq_nil ?_
  go_wp2
  go_ret
  exact post_mk' rfl (by (try show Ex _ _); with_reducible repeat (first | exact ex_refl _ | assumption | refine ex_drewL ?_ | refine ex_appR ?_ _ | refine ex_wx ?_ _ | refine ex_drew ?_ | refine ex_alloc ?_ _))
/-- What is right of a log, whatever its disk. -/
structure LgOk (wl : Wl) : Prop where
  cb : CmB wl.c
  n : wl.c.n ≤ 1000
  un : wl.c.used ≤ wl.c.n
  s : wl.c.side ≤ 1
  a : wl.c.all = wl.sh.length
  a1 : 0 < wl.sh.length
  an : wl.sh.length ≤ 1000
  t : wl.c.turn ≤ 1073741824
theorem CmOk.lg {sz : Nat} {c : Cm} {sh : List By} (h : CmOk HW sz c sh) (br : Bool) : LgOk ⟨c, sh, br⟩ := by
  have h1 := flatW_len sh
  have h2 := h.u
  have h3 := h.un
  have h4 := h.n2
  have h5 := h.a
  have h6 := h.t2
  have h7 := h.s
  have h8 := h.a1
  exact ⟨⟨by show c.turn < _; omega, by show c.n < _; omega, by show c.side < _; omega, by show c.used < _; omega, by show c.all < _; omega, by show c.mark.length = 4; rw [h.m]; exact mark_len HW_len sh⟩, h.n2, h.un, h.s, h.a, by show 0 < sh.length; omega, by show sh.length ≤ 1000; omega, h.t2⟩
theorem put_any {w0 w : World} (G : Glob w0) (k0 : Ex w0 w) {p : Nat} {L : Loc} {d : Dk} {wl : Wl} (h : LgM w p L d wl) (ok : LgOk wl) (side : Nat) (ahead : Cm) (haB : CmB ahead) (v : Value) (b : By) (hs : TyB w v b) (hb : b.length ≤ 1000000)
    (h2 : ahead.used ≤ 1000) (h3 : side ≤ 1) (h4 : ahead.all ≤ wl.sh.length) (ho : ∀ x, L.own x → w0.heap.size ≤ x) (hpo : w0.heap.size ≤ p) (hops : d.ops + 2000 < 1000000000) (hq : d.qu.length + 2000 < 1000000) :
    Calls Tryd.prog 45 #[PT p, U4 side, .agg (CR ahead), v] w (PostLg p L w (putD HW d wl side ahead.used ahead.all ahead.mark b)) := by
  have h5 := ok.an
  by_cases hno : wl.br = true ∨ 50000 < b.length ∨ wl.c.n < ahead.used + secs b.length ∨ wl.c.turn = 1073741824
  · exact put_no h ok.cb side ahead haB v b hs hb ok.n h2 hno
  · have g1 : wl.br = false := by
      cases hbr : wl.br with
      | false => rfl
      | true => exact absurd (Or.inl hbr) hno
    have g2 : b.length ≤ 50000 := Nat.le_of_not_lt fun e => hno (Or.inr (Or.inl e))
    have g3 : ahead.used + secs b.length ≤ wl.c.n := Nat.le_of_not_lt fun e => hno (Or.inr (Or.inr (Or.inl e)))
    have g4 : wl.c.turn ≠ 1073741824 := fun e => hno (Or.inr (Or.inr (Or.inr e)))
    exact put_go G k0 h ok.cb side ahead haB v b hs ok.n h2 h3 h4 (by omega) ok.a1 ok.t ho hpo hops hq g1 g2 g3 g4
set_option maxHeartbeats 400000 in
theorem app_any {w0 w : World} (G : Glob w0) (k0 : Ex w0 w) {p : Nat} {L : Loc} {d : Dk} {wl : Wl} (h : LgM w p L d wl) (ok : LgOk wl) (v : Value) (b : By) (hs : TyB w v b) (hb : b.length ≤ 1000000)
    (ho : ∀ x, L.own x → w0.heap.size ≤ x) (hpo : w0.heap.size ≤ p) (hops : d.ops + 2000 < 1000000000) (hq : d.qu.length + 2000 < 1000000) :
    Calls Tryd.prog 13 #[PT p, v] w (PostLg p L w (appD HW d wl b)) := by
  obtain ⟨sv, hp, hsv⟩ := h.out
  have zp := (Array.getElem?_eq_some_iff.1 hp).1
  have c2 := (block_cellF (o := 2) (v := U4 wl.c.side) hp rfl).1
  have pc : cellsN w p 0 9 = some (CR wl.c) := cellsN_some.2 ⟨rfl, fun j hj => by
    rw [Nat.zero_add, cell_of_row w p j _ _ _ hp]
    match j, hj with
    | 0, _ => rfl
    | 1, _ => rfl
    | 2, _ => rfl
    | 3, _ => rfl
    | 4, _ => rfl
    | 5, _ => rfl
    | 6, _ => rfl
    | 7, _ => rfl
    | 8, _ => rfl⟩
  have hun := ok.un
  have hn := ok.n
  have HPt : Hid (∀ w', Ex w w' → Calls Tryd.prog 45 #[PT p, U4 wl.c.side, .agg (CR wl.c), v] w' (PostLg p L w' (putD HW d wl wl.c.side wl.c.used wl.c.all wl.c.mark b))) := Lib.hid fun w' k =>
    put_any G (ex_trans k0 k) (h.ex k) ok wl.c.side wl.c ok.cb v b (hs.ky (Ky.ex k)) hb (by omega) ok.s (by rw [ok.a]; exact Nat.le_refl _) ho hpo hops hq
  have hv1 : v.oneCell' = true := by obtain ⟨a, c, rfl, _⟩ := hs.out; rfl
  obtain ⟨va, vc, rfl, _⟩ := hs.out
  unfold appD
  generalize putD HW d wl wl.c.side wl.c.used wl.c.all wl.c.mark b = r at *
  clear h hs hp hsv
  go_enter Tryd.func13, Tryd.ntmps13
  go_wp2
  refine wp_region_forkH (fun w' => ∃ X, w' = kp w (fun x => x = p ∨ L.own x) X) (.look 0 (.look 1 (.look 2 (.look 3 (.look 4 (.look 6 (.look 7 (.look 8 (.look 10 (.fork 5 (.eff 9 (.eff 11 (.look 12 .done))) 9 (.eff 5 (.eff 11 (.look 12 .done))))))))))))) (⟨_, kp_of (fun _ _ _ => rfl)⟩) (by kernel_rfl) (by kernel_rfl) (fun _ _ d _ _ h => by cases d <;> exact h) ?_
  simp only [Fk.ops, nth]
  repeat (first | ((with_reducible refine wpForkH_look ?_); go_big_quiet_step (fail); (try (with_reducible refine wpQuiet_nil ?_))) | (with_reducible refine wpForkH_eff ?_) | ((with_reducible refine effH_F ?_ ?_); (focus rfl); go_simp) | ((with_reducible refine effH_T ?_ ?_); (focus rfl); (try dsimp only); go_wp2_with ((go_at_call 45; (with_reducible refine (HPt.out _ (by (try show Ex _ _); with_reducible repeat (first | exact ex_refl _ | assumption | refine ex_drewL ?_ | refine ex_appR ?_ _ | refine ex_wx ?_ _ | refine ex_drew ?_ | refine ex_alloc ?_ _))).mono ?_); rintro e w5 ⟨L2, rfl, hM5, hV5⟩; have HKp := Lib.hid ((Wv.ofDv (Dv.ofEx (show Ex w _ from (by (try show Ex _ _); with_reducible repeat (first | exact ex_refl _ | assumption | refine ex_drewL ?_ | refine ex_appR ?_ _ | refine ex_wx ?_ _ | refine ex_drew ?_ | refine ex_alloc ?_ _))))).trans hV5); replace hM5 := Lib.hid hM5; clear hV5)); (first | done | refine mixQH_mk (⟨_, kp_of (by first | exact HKp.out.fr.same | exact fun _ _ _ => rfl)⟩) ?_)))
  all_goals (try (with_reducible refine wpForkH_fork ?_ ?_))
  all_goals repeat (first | ((with_reducible refine wpForkH_look ?_); go_big_quiet_step (fail); (try (with_reducible refine wpQuiet_nil ?_))) | (with_reducible refine wpForkH_eff ?_) | ((with_reducible refine effH_F ?_ ?_); (focus rfl); go_simp) | ((with_reducible refine effH_T ?_ ?_); (focus rfl); (try dsimp only); go_wp2_with ((go_at_call 45; (with_reducible refine (HPt.out _ (by (try show Ex _ _); with_reducible repeat (first | exact ex_refl _ | assumption | refine ex_drewL ?_ | refine ex_appR ?_ _ | refine ex_wx ?_ _ | refine ex_drew ?_ | refine ex_alloc ?_ _))).mono ?_); rintro e w5 ⟨L2, rfl, hM5, hV5⟩; have HKp := Lib.hid ((Wv.ofDv (Dv.ofEx (show Ex w _ from (by (try show Ex _ _); with_reducible repeat (first | exact ex_refl _ | assumption | refine ex_drewL ?_ | refine ex_appR ?_ _ | refine ex_wx ?_ _ | refine ex_drew ?_ | refine ex_alloc ?_ _))))).trans hV5); replace hM5 := Lib.hid hM5; clear hV5)); (first | done | refine mixQH_mk (⟨_, kp_of (by first | exact HKp.out.fr.same | exact fun _ _ _ => rfl)⟩) ?_)))
  all_goals (with_reducible refine wpForkH_nil ?_)
  all_goals
    go_wp2
    go_ret
    exact ⟨L2, rfl, hM5.out, HKp.out⟩
def build0Run (P : Program) (t : TypeId) (w : World) : Result Next := ((Instr.build t #[]).run P w).andThen fun x w' => .ok (.value x) w'
@[go_sem ↓ high] theorem run_build0_pre {P : Program} (ρ : Operand → Value) (d : Option Tmp) (t : TypeId) (ty : TypeId) (pos : String) (aft : Array Edge) (g : Option (Nat × Bool)) (w : World) :
    Sem.run P (execOp ρ ⟨d, .build t #[], ty, pos, aft, g⟩) w = build0Run P t w := by
  simp only [execOp, Sem.run_bind, Sem.run_pure, build0Run, List.map_toArray, List.map_cons, List.map_nil]
@[go_sem low] theorem build0Run_other {P : Program} (t : TypeId) (w : World) : build0Run P t w = ((Instr.build t #[]).run P w).andThen fun x w' => .ok (.value x) w' := rfl
theorem built0_claim : Tryd.prog.built 62 [] = some #[.int .u32 0, .int .u32 0, .int .u32 0, .int .u32 0, .int .u32 0, .int .u8 0, .int .u8 0, .int .u8 0, .int .u8 0] := by kernel_rfl
@[go_sem] theorem build0_claim (w : World) : build0Run Tryd.prog 62 w = .ok (.value (.agg #[.int .u32 0, .int .u32 0, .int .u32 0, .int .u32 0, .int .u32 0, .int .u8 0, .int .u8 0, .int .u8 0, .int .u8 0])) w := by
  unfold build0Run
  rw [run_build w _ _ _ built0_claim]; rfl
def zeroC : Cm := ⟨0, 0, 0, 0, 0, [0, 0, 0, 0]⟩
theorem zeroC_row : CR zeroC = #[.int .u32 0, .int .u32 0, .int .u32 0, .int .u32 0, .int .u32 0, .int .u8 0, .int .u8 0, .int .u8 0, .int .u8 0] := by kernel_rfl
set_option maxHeartbeats 400000 in
theorem chk_any {w0 w : World} (G : Glob w0) (k0 : Ex w0 w) {p : Nat} {L : Loc} {d : Dk} {wl : Wl} (h : LgM w p L d wl) (ok : LgOk wl) (v : Value) (b : By) (hs : TyB w v b) (hb : b.length ≤ 1000000)
    (ho : ∀ x, L.own x → w0.heap.size ≤ x) (hpo : w0.heap.size ≤ p) (hops : d.ops + 2000 < 1000000000) (hq : d.qu.length + 2000 < 1000000) :
    Calls Tryd.prog 14 #[PT p, v] w (PostLg p L w (chkD HW d wl b)) := by
  obtain ⟨sv, hp, hsv⟩ := h.out
  have zp := (Array.getElem?_eq_some_iff.1 hp).1
  have c2 := (block_cellF (o := 2) (v := U4 wl.c.side) hp rfl).1
  have hs1 := ok.s
  obtain ⟨sd, hsd⟩ : ∃ sd, 1 - wl.c.side = sd := ⟨_, rfl⟩
  have e1 : (1 - (wl.c.side : Int)) = sd := by omega
  have e2 : sd ≤ 1 := by omega
  obtain ⟨va, vc, rfl, _⟩ := hs.out
  have hz : chkD HW d wl b = putD HW d wl sd zeroC.used zeroC.all zeroC.mark b := by
    unfold chkD
    rw [hsd]
    unfold zeroC
    rfl
  rw [hz]
  have HPt : Hid (∀ w', Ex w w' → Calls Tryd.prog 45 #[PT p, U4 sd, .agg (CR zeroC), .slice va b.length vc] w' (PostLg p L w' (putD HW d wl sd zeroC.used zeroC.all zeroC.mark b))) := Lib.hid fun w' k =>
    put_any G (ex_trans k0 k) (h.ex k) ok sd zeroC ⟨by decide, by decide, by decide, by decide, by decide, rfl⟩ _ b (hs.ky (Ky.ex k)) hb (Nat.zero_le _) e2 (Nat.zero_le _) ho hpo hops hq
  rw [zeroC_row] at HPt
  unfold U4 at HPt
  rw [← e1] at HPt
  clear e1
  obtain ⟨r, hr⟩ : ∃ r, putD HW d wl sd zeroC.used zeroC.all zeroC.mark b = r := ⟨_, rfl⟩
  rw [hr] at HPt ⊢
  clear hz
  clear h hs hp hsv hr hsd
  go_enter Tryd.func14, Tryd.ntmps14
  go_wp2_with (go_at_call 45; (with_reducible refine (HPt.out _ (by (try show Ex _ _); with_reducible repeat (first | exact ex_refl _ | assumption | refine ex_drewL ?_ | refine ex_appR ?_ _ | refine ex_wx ?_ _ | refine ex_drew ?_ | refine ex_alloc ?_ _))).mono ?_); rintro e w5 ⟨L2, rfl, hM5, hV5⟩; replace hM5 := Lib.hid hM5; replace hV5 := Lib.hid hV5)
  go_ret
  exact ⟨L2, rfl, hM5.out, (Wv.ofDv (Dv.ofEx (show Ex w _ from (by (try show Ex _ _); with_reducible repeat (first | exact ex_refl _ | assumption | refine ex_drewL ?_ | refine ex_appR ?_ _ | refine ex_wx ?_ _ | refine ex_drew ?_ | refine ex_alloc ?_ _))))).trans hV5.out⟩
end Go.Proofs.YtabjamkkhlbajaaDoor

/- The log: what the head in a sector says. -/
set_option linter.unusedSimpArgs false
set_option linter.unusedVariables false
set_option linter.unnecessarySimpa false
set_option maxRecDepth 20000
namespace Go.Proofs.YtabjamkkhlbajaaDoor
open Go.RowKit
theorem read0_new {A W : World} {v : Value} {l : By} (k : Ex A W) (hs : SlT A v l) (hl : l.length ≤ 1000) : Calls Tryd.prog 67 #[v] W (fun e w' => ∃ q, e = .returned (PT q) ∧ RdW A w' q v l 0 ∧ Ex W w') := by
  have hs' := hs
  obtain ⟨a, c, rfl, _⟩ := hs.out
  refine (read0_any a l.length c W).mono fun e w' ⟨he, hw⟩ => ?_
  subst hw
  exact ⟨_, he, RdW.new k hs' hl rfl (ex_refl _), ex_alloc (ex_refl _) _⟩
theorem u32x_any {A w : World} {q : Nat} {v : Value} {l : By} {k x : Nat} (h : RdW A w q v l k) (hk : k + 4 ≤ l.length) (hx : num4 (l.drop k) = x) :
    Calls Tryd.prog 68 #[PT q] w fun e w' => e = .returned (U4 x) ∧ RdW A w' q v l (k + 4) := by
  subst hx
  exact u32_any h hk
theorem raw4x_any {A w : World} {q : Nat} {v : Value} {l m : By} {k : Nat} (h : RdW A w q v l k) (hk : k + 4 ≤ l.length) (hm : (l.drop k).take 4 = m) (hl : m.length = 4) :
    Calls Tryd.prog 69 #[PT q, I 4] w fun e w' => ∃ g off c, e = .returned (.slice (some ⟨g, off, none⟩) 4 c) ∧ cellsN w' g off 4 = some (rowB 4 (gF m)) ∧ g < w'.heap.size ∧ RdW A w' q v l (k + 4) := by
  subst hm
  refine (raw4_any h hk).mono fun e w' hh => ?_
  obtain ⟨u, rfl, ht, h2⟩ := hh
  obtain ⟨a, c, rfl, h3, h4, h5, h6⟩ := ht.out
  rcases h6 with h0 | ⟨g, off, cs, fr, rfl, hb, hc⟩
  · rw [h0] at hl; simp at hl
  · refine ⟨g, off, c, by rw [hl], cellsN_some.2 ⟨by simp, fun j hj => ?_⟩, (Array.getElem?_eq_some_iff.1 hb).1, h2⟩
    rw [cell_of_row w' g (off + j) _ _ _ hb, rowB_get, if_pos hj]
    exact hc j (by rw [hl]; exact hj)
theorem num4_take (l : By) (m k : Nat) (h : k + 4 ≤ m) : num4 ((l.take m).drop k) = num4 (l.drop k) := by
  have e : ∀ i, i < 4 → ((l.take m).drop k).getD i 0 = (l.drop k).getD i 0 := fun i hi => by
    rw [List.getD_eq_getElem?_getD, List.getD_eq_getElem?_getD, List.getElem?_drop, List.getElem?_drop, List.getElem?_take_of_lt (by omega)]
  unfold num4
  rw [e 0 (by omega), e 1 (by omega), e 2 (by omega), e 3 (by omega)]
def rdB (sz at_ : Nat) (s : Bk) : Bool := rightC sz at_ (cmOf s) && decide (layB HW (cmOf s) = s)
theorem readC_rdB (sz at_ : Nat) (s : Bk) : readC HW sz at_ s = if rdB sz at_ s = true then some (cmOf s) else none := by
  unfold readC rdB
  simp only [Bool.and_eq_true, decide_eq_true_eq]
theorem zero_claim (c : Cm) : spliceA #[.int .u32 0, .int .u32 0, .int .u32 0, .int .u32 0, .int .u32 0, .int .u8 0, .int .u8 0, .int .u8 0, .int .u8 0] 0 (CR c).toList = CR c := by kernel_rfl
theorem eqF_blk (a b : Bk) : eqF (bkF a) (bkF b) 64 = decide (a = b) := by
  rw [Bool.eq_iff_iff, eqF_true, decide_eq_true_eq]
  exact ⟨fun h => bkF_inj h, fun h i _ => by rw [h]⟩
set_option maxHeartbeats 800000 in
theorem readw_any {w0 w : World} (G : Glob w0) (k0 : Ex w0 w) {L : Loc} {d : Dk} (h : DkAt w L d) (at_ : Nat) (hat : at_ ≤ 1) (s : Bk) :
    Calls Tryd.prog 41 #[PT L.p, I at_, .agg (rowB 64 (bkF s))] w (Post w (.tuple #[.agg (CR (cmOf s)), .bool (rdB d.has.length at_ s)])) := by
  obtain ⟨c, hc⟩ : ∃ c, cmOf s = c := ⟨_, rfl⟩
  have hbl := blkL_len s
  obtain ⟨l, hl⟩ : ∃ l, ((blkL s).drop 8).take 52 = l := ⟨_, rfl⟩
  have ll : l.length = 52 := by rw [← hl, List.length_take, List.length_drop, hbl]; rfl
  have hx0 : num4 (l.drop 0) = c.turn := by rw [← hl, num4_take _ _ _ (by omega), ← hc]; rfl
  have hd : ∀ k, k + 4 ≤ 52 → num4 (l.drop k) = num4 ((blkL s).drop (8 + k)) := fun k hk => by rw [← hl, num4_take _ _ _ hk, List.drop_drop]
  have hx1 : num4 (l.drop 4) = c.n := by rw [hd 4 (by omega), ← hc]; rfl
  have hx2 : num4 (l.drop 8) = c.side := by rw [hd 8 (by omega), ← hc]; rfl
  have hx3 : num4 (l.drop 12) = c.used := by rw [hd 12 (by omega), ← hc]; rfl
  have hx4 : num4 (l.drop 16) = c.all := by rw [hd 16 (by omega), ← hc]; rfl
  have hx5 : (l.drop 20).take 4 = c.mark := by
    rw [← hl, ← hc]
    show ((((blkL s).drop 8).take 52).drop 20).take 4 = ((blkL s).drop 28).take 4
    rw [List.drop_take, List.drop_drop, List.take_take]; rfl
  have hml : c.mark.length = 4 := by rw [← hx5, List.length_take, List.length_drop, ll]; rfl
  have b0 : c.turn < 4294967296 := by rw [← hx0]; exact num4_lt _
  have b1 : c.n < 4294967296 := by rw [← hx1]; exact num4_lt _
  have b2 : c.side < 4294967296 := by rw [← hx2]; exact num4_lt _
  have b3 : c.used < 4294967296 := by rw [← hx3]; exact num4_lt _
  have b4 : c.all < 4294967296 := by rw [← hx4]; exact num4_lt _
  have HS : Hid (∀ w', Ex (w.alloc (.cells (rowB 64 (bkF s)) 75)) w' → SlT w' (.slice (some ⟨w.heap.size, 8, none⟩) 52 56) l) := Lib.hid fun w' k => by
    have hb := ex_block k (heap_alloc_new w (.cells (rowB 64 (bkF s)) 75))
    refine ⟨_, 56, by rw [ll], by rw [ll]; omega, by decide, (fun e => by cases e), SlB.mk' (Array.getElem?_eq_some_iff.1 hb).1 fun j hj => ?_⟩
    rw [ll] at hj
    rw [cell_of_row w' w.heap.size (8 + j) _ _ _ hb, rowB_get, if_pos (by omega)]
    have : gF l j = bkF s (8 + j) := by
      rw [← hl]
      unfold gF
      rw [List.getD_eq_getElem?_getD, List.getElem?_take_of_lt hj, List.getElem?_drop, ← blkL_get, List.getD_eq_getElem?_getD]
    rw [this]
  have HL : Hid (∀ w', Ex w w' → Calls Tryd.prog 65 #[.agg (CR c)] w' (Post w' (.agg (rowB 64 (bkF (layB HW c)))))) := Lib.hid fun w' k => lay_any G (ex_trans k0 k) c b0 b1 b2 b3 b4 hml
  have HMy : Hid (∀ w', Ex w w' → Calls Tryd.prog 33 #[PT L.p, I c.n] w' (Post w' (.bool (mayI d c.n)))) := Lib.hid fun w' k => may_any (h.ex k) c.n
  have hres : rdB d.has.length at_ s = (decide ((1 : Int) ≤ c.turn) && decide ((c.turn : Int) ≤ 1073741824) && ((c.turn : Int) % 2 == at_) && decide ((c.n : Int) ≤ 1000) && mayI d c.n && decide ((c.side : Int) ≤ 1) && decide ((c.used : Int) ≤ c.n) && decide ((1 : Int) ≤ c.all) && eqF (bkF (layB HW c)) (bkF s) 64) := by
    unfold rdB rightC mayB mayI
    rw [eqF_blk, hc, Bool.eq_iff_iff]
    simp only [Bool.and_eq_true, decide_eq_true_eq, beq_iff_eq]
    constructor
    · rintro ⟨⟨⟨⟨⟨⟨⟨h1, h2⟩, h3⟩, ⟨h4, h5⟩, h6⟩, h7⟩, h8⟩, h9⟩, h10⟩
      refine ⟨⟨⟨⟨⟨⟨⟨⟨?_, ?_⟩, ?_⟩, ?_⟩, ⟨?_, ?_⟩, ?_⟩, ?_⟩, ?_⟩, ?_⟩, h10⟩ <;> omega
    · rintro ⟨⟨⟨⟨⟨⟨⟨⟨h1, h2⟩, h3⟩, h0⟩, ⟨h4, h5⟩, h6⟩, h7⟩, h8⟩, h9⟩, h10⟩
      refine ⟨⟨⟨⟨⟨⟨⟨?_, ?_⟩, ?_⟩, ⟨?_, ?_⟩, ?_⟩, ?_⟩, ?_⟩, ?_⟩, h10⟩ <;> omega
  rw [hres, hc]
  generalize bkF (layB HW c) = lb at *
  generalize bkF s = sb at *
  have Hx0 := Lib.hid hx0
  have Hx1 := Lib.hid hx1
  have Hx2 := Lib.hid hx2
  have Hx3 := Lib.hid hx3
  have Hx4 := Lib.hid hx4
  have Hx5 := Lib.hid hx5
  have Hml := Lib.hid hml
  have Hll := Lib.hid ll
  obtain ⟨mb, hmb⟩ : ∃ mb, mayI d c.n = mb := ⟨_, rfl⟩
  rw [hmb] at HMy ⊢
  clear hx0 hx1 hx2 hx3 hx4 hx5 hml ll hd hbl hl hc h hres hmb
  go_enter Tryd.func41, Tryd.ntmps41
  go_wp2_with (first | (go_at_call 67; (refine (read0_new (l := l) (ex_refl _) (HS.out _ (by (try show Ex _ _); with_reducible repeat (first | exact ex_refl _ | assumption | refine ex_drewL ?_ | refine ex_appR ?_ _ | refine ex_wx ?_ _ | refine ex_drew ?_ | refine ex_alloc ?_ _))) (by rw [Hll.out]; omega)).mono ?_); rintro e w2 ⟨q, rfl, H, kq⟩; replace H := Lib.hid H; clear kq) | (go_at_call 68; (refine (u32x_any (k := 0) H.out (by rw [Hll.out]; omega) Hx0.out).mono ?_); clear H; rintro e w3 ⟨rfl, H⟩; replace H := Lib.hid H) | (go_at_call 68; (refine (u32x_any (k := 4) H.out (by rw [Hll.out]; omega) Hx1.out).mono ?_); clear H; rintro e w3 ⟨rfl, H⟩; replace H := Lib.hid H) | (go_at_call 68; (refine (u32x_any (k := 8) H.out (by rw [Hll.out]; omega) Hx2.out).mono ?_); clear H; rintro e w3 ⟨rfl, H⟩; replace H := Lib.hid H) | (go_at_call 68; (refine (u32x_any (k := 12) H.out (by rw [Hll.out]; omega) Hx3.out).mono ?_); clear H; rintro e w3 ⟨rfl, H⟩; replace H := Lib.hid H) | (go_at_call 68; (refine (u32x_any (k := 16) H.out (by rw [Hll.out]; omega) Hx4.out).mono ?_); clear H; rintro e w3 ⟨rfl, H⟩; replace H := Lib.hid H) | (go_at_call 69; (refine (raw4x_any (k := 20) H.out (by rw [Hll.out]; omega) Hx5.out Hml.out).mono ?_); clear H; rintro e w4 ⟨gm, om, cm, rfl, cm4, zm, H⟩; have K4 : Ex w w4 := ex_trans (by (try show Ex _ _); with_reducible repeat (first | exact ex_refl _ | assumption | refine ex_drewL ?_ | refine ex_appR ?_ _ | refine ex_wx ?_ _ | refine ex_drew ?_ | refine ex_alloc ?_ _)) H.ex; have c6 := ex_block H.ex (heap_alloc_new (w.alloc (.cells (rowB 64 sb) 75)) (.cells #[.int .u32 0, .int .u32 0, .int .u32 0, .int .u32 0, .int .u32 0, .int .u8 0, .int .u8 0, .int .u8 0, .int .u8 0] 62)); simp only [World.size_alloc] at c6; replace c6 := Lib.hid c6; have c5 := Lib.hid (ex_block H.ex (ex_block (ex_alloc (ex_refl _) _) (heap_alloc_new w (.cells (rowB 64 sb) 75)))); clear H) | (go_at_call 33; (with_reducible refine (HMy.out _ (by (try show Ex _ _); with_reducible repeat (first | exact ex_refl _ | assumption | refine ex_drewL ?_ | refine ex_appR ?_ _ | refine ex_wx ?_ _ | refine ex_drew ?_ | refine ex_alloc ?_ _))).mono ?_); rintro e w5 ⟨rfl, X5, rfl⟩))
  all_goals
    refine wp_worldW fun A hA => ?_
    have kA : Ex w4 A := by rw [← hA]; exact (by (try show Ex _ _); with_reducible repeat (first | exact ex_refl _ | assumption | refine ex_drewL ?_ | refine ex_appR ?_ _ | refine ex_wx ?_ _ | refine ex_drew ?_ | refine ex_alloc ?_ _))
    have hb9 : A.heap[w4.heap.size]? = some (.cells (CR c) 62 (0, 0)) := by rw [← hA]; exact ex_block (w := w4.alloc (.cells (CR c) 62)) (by (try show Ex _ _); with_reducible repeat (first | exact ex_refl _ | assumption | refine ex_drewL ?_ | refine ex_appR ?_ _ | refine ex_wx ?_ _ | refine ex_drew ?_ | refine ex_alloc ?_ _)) (heap_alloc_new _ _)
    have hb6 := ex_block kA c6.out
    have hb5 := ex_block kA c5.out
    have kwA := ex_trans K4 kA
    clear hA
    have zw4 : w.heap.size + 1 < w4.heap.size := (Array.getElem?_eq_some_iff.1 c6.out).1
    obtain ⟨g9, hg9⟩ : ∃ g, w4.heap.size = g := ⟨_, rfl⟩
    rw [hg9] at hb9 zw4 ⊢
    obtain ⟨g6, hg6⟩ : ∃ g, w.heap.size + 1 = g := ⟨_, rfl⟩
    rw [hg6] at hb6 zw4 ⊢
    obtain ⟨g5, hg5⟩ : ∃ g, w.heap.size = g := ⟨_, rfl⟩
    rw [hg5] at hb5 ⊢
    have hwg : w.heap.size ≤ g6 := by omega
    obtain ⟨P1, hP1⟩ : ∃ P1 : Nat → Prop, P1 = fun x => x = g6 := ⟨_, rfl⟩
    have nw9 : ¬ P1 g9 := by rw [hP1]; show ¬ g9 = g6; omega
    have nw5 : ¬ P1 g5 := by rw [hP1]; show ¬ g5 = g6; omega
    have HP1 : Hid (∀ x, ¬ P1 x → x ≠ g6) := Lib.hid (by rw [hP1]; exact fun x hx => hx)
    obtain ⟨n9, f9, z9⟩ := block_cellsF (n := 9) hb9 rfl
    have d0 := (block_cellF (o := 0) (v := U4 c.turn) hb9 rfl).1
    have d1 := (block_cellF (o := 1) (v := U4 c.n) hb9 rfl).1
    have d2 := (block_cellF (o := 2) (v := U4 c.side) hb9 rfl).1
    have d3 := (block_cellF (o := 3) (v := U4 c.used) hb9 rfl).1
    have d4 := (block_cellF (o := 4) (v := U4 c.all) hb9 rfl).1
    obtain ⟨n5, f5, z5⟩ := block_cellsF (n := 64) hb5 (by simp)
    obtain ⟨n6, f6, z6⟩ := block_cellsF (n := 9) hb6 rfl
    have h6 := setCells_block g6 62 (0, 0) (CR c).toList 0 A _ hb6
    rw [zero_claim] at h6
    have HB6 : Hid (∀ w', Ex (A.setCells g6 0 (CR c).toList) w' → cellsN w' g6 0 9 = some (CR c)) := Lib.hid fun w' k => (block_cellsF (n := 9) (ex_block k h6) rfl).1
    replace kwA := Lib.hid kwA
    have HwA : Hid (∀ w', Ex A w' → Ex w w') := Lib.hid fun w' k => ex_trans kwA.out k
    clear hP1 hg9 hg6 hg5 hb9 hb6 hb5 h6 c5 c6 K4 cm4 zm
  · cases mb with
    | false => 
      refine wp_region_forkH (fun w' => ∃ X, w' = kp A P1 X) (.look 0 (.look 1 (.look 2 (.look 3 (.look 4 (.look 5 (.look 6 (.look 7 (.look 8 (.look 9 (.look 10 (.look 11 (.look 12 (.look 13 (.look 14 (.look 15 (.look 16 (.look 17 (.look 18 (.look 19 (.look 20 (.look 22 (.eff 21 (.look 23 (.look 24 (.eff 25 (.look 26 .done))))))))))))))))))))))))))) (⟨_, kp_of (fun _ _ _ => rfl)⟩) (by kernel_rfl) (by kernel_rfl) (fun _ _ d _ _ h => by cases d <;> exact h) ?_
      simp only [Fk.ops, nth]
      repeat (first | ((with_reducible refine wpForkH_look ?_); go_big_quiet_step (fail); (try (with_reducible refine wpQuiet_nil ?_))) | (with_reducible refine wpForkH_eff ?_) | ((with_reducible refine effH_F ?_ ?_); (focus rfl); go_simp) | ((with_reducible refine effH_T ?_ ?_); (focus rfl); (try dsimp only); go_wp2_with ((go_at_call 65; (with_reducible refine (HL.out _ (HwA.out _ (by (try show Ex _ _); with_reducible repeat (first | exact ex_refl _ | assumption | refine ex_drewL ?_ | refine ex_appR ?_ _ | refine ex_wx ?_ _ | refine ex_drew ?_ | refine ex_alloc ?_ _)))).mono ?_); rintro e w7 ⟨rfl, X7, rfl⟩)); (first | done | refine mixQH_mk (⟨_, kp_of (by intro x hx hp9; first | (refine (ex_below (?_ : Ex A _)).block x hx; (with_reducible repeat (first | exact ex_refl _ | assumption | refine ex_drewL ?_ | refine ex_appR ?_ _ | refine ex_wx ?_ _ | refine ex_drew ?_ | refine ex_alloc ?_ _)); done) | (refine ((ex_below (?_ : Ex (A.setCells g6 0 (CR c).toList) _)).block x (by rw [setCells_size]; exact hx)).trans (setCells_heap _ _ _ _ _ (HP1.out x hp9)); (with_reducible repeat (first | exact ex_refl _ | assumption | refine ex_drewL ?_ | refine ex_appR ?_ _ | refine ex_wx ?_ _ | refine ex_drew ?_ | refine ex_alloc ?_ _)); done))⟩) ?_)))
      all_goals (with_reducible refine wpForkH_nil ?_)
      go_wp2
      refine ret_rowV (cs := CR c) Tryd.results41 Tryd.underlying62 rfl info_clm rfl (HB6.out _ (by (try show Ex _ _); with_reducible repeat (first | exact ex_refl _ | assumption | refine ex_drewL ?_ | refine ex_appR ?_ _ | refine ex_wx ?_ _ | refine ex_drew ?_ | refine ex_alloc ?_ _))) rfl rfl ?_
      refine post_mk' (v' := .tuple #[.agg (CR c), .bool false]) (congrArg (fun b => Value.tuple #[.agg (CR c), .bool b]) (Eq.symm ?_)) (by show Ex _ _; repeat (first | (with_reducible assumption) | (with_reducible exact ex_refl _) | (with_reducible refine ex_wx ?_ _) | (with_reducible refine ex_drew ?_) | (with_reducible refine ex_alloc ?_ _) | (with_reducible refine ex_setCells ?_ hwg _ _) | (with_reducible exact HwA.out _ (ex_refl _))))
      rw [Bool.eq_false_iff]
      intro hh
      simp only [Bool.and_eq_true, decide_eq_true_eq, beq_iff_eq, Bool.false_eq_true, and_false, false_and] at hh
      try omega
    | true =>
      by_cases m6 : (c.side : Int) ≤ 1
      · have t6 : decide ((c.side : Int) ≤ 1) = true := decide_eq_true m6
        by_cases m7 : (c.used : Int) ≤ c.n
        · have t7 : decide ((c.used : Int) ≤ c.n) = true := decide_eq_true m7
          by_cases m8 : (1 : Int) ≤ c.all
          · have t8 : decide ((1 : Int) ≤ c.all) = true := decide_eq_true m8
            refine wp_region_forkH (fun w' => ∃ X, w' = kp A P1 X) (.look 0 (.look 1 (.look 2 (.look 3 (.look 4 (.look 5 (.look 6 (.look 7 (.look 8 (.look 9 (.look 10 (.look 11 (.look 12 (.look 13 (.look 14 (.look 15 (.look 16 (.look 17 (.look 18 (.look 19 (.look 20 (.look 22 (.eff 21 (.look 23 (.look 24 (.eff 25 (.look 26 .done))))))))))))))))))))))))))) (⟨_, kp_of (fun _ _ _ => rfl)⟩) (by kernel_rfl) (by kernel_rfl) (fun _ _ d _ _ h => by cases d <;> exact h) ?_
            simp only [Fk.ops, nth]
            repeat (first | ((with_reducible refine wpForkH_look ?_); go_big_quiet_step (fail); (try (with_reducible refine wpQuiet_nil ?_))) | (with_reducible refine wpForkH_eff ?_) | ((with_reducible refine effH_F ?_ ?_); (focus rfl); go_simp) | ((with_reducible refine effH_T ?_ ?_); (focus rfl); (try dsimp only); go_wp2_with ((go_at_call 65; (with_reducible refine (HL.out _ (HwA.out _ (by (try show Ex _ _); with_reducible repeat (first | exact ex_refl _ | assumption | refine ex_drewL ?_ | refine ex_appR ?_ _ | refine ex_wx ?_ _ | refine ex_drew ?_ | refine ex_alloc ?_ _)))).mono ?_); rintro e w7 ⟨rfl, X7, rfl⟩)); (first | done | refine mixQH_mk (⟨_, kp_of (by intro x hx hp9; first | (refine (ex_below (?_ : Ex A _)).block x hx; (with_reducible repeat (first | exact ex_refl _ | assumption | refine ex_drewL ?_ | refine ex_appR ?_ _ | refine ex_wx ?_ _ | refine ex_drew ?_ | refine ex_alloc ?_ _)); done) | (refine ((ex_below (?_ : Ex (A.setCells g6 0 (CR c).toList) _)).block x (by rw [setCells_size]; exact hx)).trans (setCells_heap _ _ _ _ _ (HP1.out x hp9)); (with_reducible repeat (first | exact ex_refl _ | assumption | refine ex_drewL ?_ | refine ex_appR ?_ _ | refine ex_wx ?_ _ | refine ex_drew ?_ | refine ex_alloc ?_ _)); done))⟩) ?_)))
            all_goals (with_reducible refine wpForkH_nil ?_)
            go_wp2
            refine ret_rowV (cs := CR c) Tryd.results41 Tryd.underlying62 rfl info_clm rfl (HB6.out _ (by (try show Ex _ _); with_reducible repeat (first | exact ex_refl _ | assumption | refine ex_drewL ?_ | refine ex_appR ?_ _ | refine ex_wx ?_ _ | refine ex_drew ?_ | refine ex_alloc ?_ _))) rfl rfl ?_
            refine post_mk' (v' := .tuple #[.agg (CR c), .bool (eqF lb sb 64)]) (congrArg (fun b => Value.tuple #[.agg (CR c), .bool b]) (Eq.symm ?_)) (by show Ex _ _; repeat (first | (with_reducible assumption) | (with_reducible exact ex_refl _) | (with_reducible refine ex_wx ?_ _) | (with_reducible refine ex_drew ?_) | (with_reducible refine ex_alloc ?_ _) | (with_reducible refine ex_setCells ?_ hwg _ _) | (with_reducible exact HwA.out _ (ex_refl _))))
            rw [Bool.eq_iff_iff]
            simp only [Bool.and_eq_true, decide_eq_true_eq, beq_iff_eq]
            exact ⟨fun hh => hh.2, fun hh => ⟨⟨⟨⟨⟨⟨⟨⟨by omega, by omega⟩, by omega⟩, by omega⟩, trivial⟩, by omega⟩, by omega⟩, by omega⟩, hh⟩⟩
          · have t8 : decide ((1 : Int) ≤ c.all) = false := decide_eq_false m8
            refine wp_region_forkH (fun w' => ∃ X, w' = kp A P1 X) (.look 0 (.look 1 (.look 2 (.look 3 (.look 4 (.look 5 (.look 6 (.look 7 (.look 8 (.look 9 (.look 10 (.look 11 (.look 12 (.look 13 (.look 14 (.look 15 (.look 16 (.look 17 (.look 18 (.look 19 (.look 20 (.look 22 (.eff 21 (.look 23 (.look 24 (.eff 25 (.look 26 .done))))))))))))))))))))))))))) (⟨_, kp_of (fun _ _ _ => rfl)⟩) (by kernel_rfl) (by kernel_rfl) (fun _ _ d _ _ h => by cases d <;> exact h) ?_
            simp only [Fk.ops, nth]
            repeat (first | ((with_reducible refine wpForkH_look ?_); go_big_quiet_step (fail); (try (with_reducible refine wpQuiet_nil ?_))) | (with_reducible refine wpForkH_eff ?_) | ((with_reducible refine effH_F ?_ ?_); (focus rfl); go_simp) | ((with_reducible refine effH_T ?_ ?_); (focus rfl); (try dsimp only); go_wp2_with ((go_at_call 65; (with_reducible refine (HL.out _ (HwA.out _ (by (try show Ex _ _); with_reducible repeat (first | exact ex_refl _ | assumption | refine ex_drewL ?_ | refine ex_appR ?_ _ | refine ex_wx ?_ _ | refine ex_drew ?_ | refine ex_alloc ?_ _)))).mono ?_); rintro e w7 ⟨rfl, X7, rfl⟩)); (first | done | refine mixQH_mk (⟨_, kp_of (by intro x hx hp9; first | (refine (ex_below (?_ : Ex A _)).block x hx; (with_reducible repeat (first | exact ex_refl _ | assumption | refine ex_drewL ?_ | refine ex_appR ?_ _ | refine ex_wx ?_ _ | refine ex_drew ?_ | refine ex_alloc ?_ _)); done) | (refine ((ex_below (?_ : Ex (A.setCells g6 0 (CR c).toList) _)).block x (by rw [setCells_size]; exact hx)).trans (setCells_heap _ _ _ _ _ (HP1.out x hp9)); (with_reducible repeat (first | exact ex_refl _ | assumption | refine ex_drewL ?_ | refine ex_appR ?_ _ | refine ex_wx ?_ _ | refine ex_drew ?_ | refine ex_alloc ?_ _)); done))⟩) ?_)))
            all_goals (with_reducible refine wpForkH_nil ?_)
            go_wp2
            refine ret_rowV (cs := CR c) Tryd.results41 Tryd.underlying62 rfl info_clm rfl (HB6.out _ (by (try show Ex _ _); with_reducible repeat (first | exact ex_refl _ | assumption | refine ex_drewL ?_ | refine ex_appR ?_ _ | refine ex_wx ?_ _ | refine ex_drew ?_ | refine ex_alloc ?_ _))) rfl rfl ?_
            refine post_mk' (v' := .tuple #[.agg (CR c), .bool false]) (congrArg (fun b => Value.tuple #[.agg (CR c), .bool b]) (Eq.symm ?_)) (by show Ex _ _; repeat (first | (with_reducible assumption) | (with_reducible exact ex_refl _) | (with_reducible refine ex_wx ?_ _) | (with_reducible refine ex_drew ?_) | (with_reducible refine ex_alloc ?_ _) | (with_reducible refine ex_setCells ?_ hwg _ _) | (with_reducible exact HwA.out _ (ex_refl _))))
            rw [Bool.eq_false_iff]
            intro hh
            simp only [Bool.and_eq_true, decide_eq_true_eq, beq_iff_eq, Bool.false_eq_true, and_false, false_and] at hh
            try omega
        · have t7 : decide ((c.used : Int) ≤ c.n) = false := decide_eq_false m7
          refine wp_region_forkH (fun w' => ∃ X, w' = kp A P1 X) (.look 0 (.look 1 (.look 2 (.look 3 (.look 4 (.look 5 (.look 6 (.look 7 (.look 8 (.look 9 (.look 10 (.look 11 (.look 12 (.look 13 (.look 14 (.look 15 (.look 16 (.look 17 (.look 18 (.look 19 (.look 20 (.look 22 (.eff 21 (.look 23 (.look 24 (.eff 25 (.look 26 .done))))))))))))))))))))))))))) (⟨_, kp_of (fun _ _ _ => rfl)⟩) (by kernel_rfl) (by kernel_rfl) (fun _ _ d _ _ h => by cases d <;> exact h) ?_
          simp only [Fk.ops, nth]
          repeat (first | ((with_reducible refine wpForkH_look ?_); go_big_quiet_step (fail); (try (with_reducible refine wpQuiet_nil ?_))) | (with_reducible refine wpForkH_eff ?_) | ((with_reducible refine effH_F ?_ ?_); (focus rfl); go_simp) | ((with_reducible refine effH_T ?_ ?_); (focus rfl); (try dsimp only); go_wp2_with ((go_at_call 65; (with_reducible refine (HL.out _ (HwA.out _ (by (try show Ex _ _); with_reducible repeat (first | exact ex_refl _ | assumption | refine ex_drewL ?_ | refine ex_appR ?_ _ | refine ex_wx ?_ _ | refine ex_drew ?_ | refine ex_alloc ?_ _)))).mono ?_); rintro e w7 ⟨rfl, X7, rfl⟩)); (first | done | refine mixQH_mk (⟨_, kp_of (by intro x hx hp9; first | (refine (ex_below (?_ : Ex A _)).block x hx; (with_reducible repeat (first | exact ex_refl _ | assumption | refine ex_drewL ?_ | refine ex_appR ?_ _ | refine ex_wx ?_ _ | refine ex_drew ?_ | refine ex_alloc ?_ _)); done) | (refine ((ex_below (?_ : Ex (A.setCells g6 0 (CR c).toList) _)).block x (by rw [setCells_size]; exact hx)).trans (setCells_heap _ _ _ _ _ (HP1.out x hp9)); (with_reducible repeat (first | exact ex_refl _ | assumption | refine ex_drewL ?_ | refine ex_appR ?_ _ | refine ex_wx ?_ _ | refine ex_drew ?_ | refine ex_alloc ?_ _)); done))⟩) ?_)))
          all_goals (with_reducible refine wpForkH_nil ?_)
          go_wp2
          refine ret_rowV (cs := CR c) Tryd.results41 Tryd.underlying62 rfl info_clm rfl (HB6.out _ (by (try show Ex _ _); with_reducible repeat (first | exact ex_refl _ | assumption | refine ex_drewL ?_ | refine ex_appR ?_ _ | refine ex_wx ?_ _ | refine ex_drew ?_ | refine ex_alloc ?_ _))) rfl rfl ?_
          refine post_mk' (v' := .tuple #[.agg (CR c), .bool false]) (congrArg (fun b => Value.tuple #[.agg (CR c), .bool b]) (Eq.symm ?_)) (by show Ex _ _; repeat (first | (with_reducible assumption) | (with_reducible exact ex_refl _) | (with_reducible refine ex_wx ?_ _) | (with_reducible refine ex_drew ?_) | (with_reducible refine ex_alloc ?_ _) | (with_reducible refine ex_setCells ?_ hwg _ _) | (with_reducible exact HwA.out _ (ex_refl _))))
          rw [Bool.eq_false_iff]
          intro hh
          simp only [Bool.and_eq_true, decide_eq_true_eq, beq_iff_eq, Bool.false_eq_true, and_false, false_and] at hh
          try omega
      · have t6 : decide ((c.side : Int) ≤ 1) = false := decide_eq_false m6
        refine wp_region_forkH (fun w' => ∃ X, w' = kp A P1 X) (.look 0 (.look 1 (.look 2 (.look 3 (.look 4 (.look 5 (.look 6 (.look 7 (.look 8 (.look 9 (.look 10 (.look 11 (.look 12 (.look 13 (.look 14 (.look 15 (.look 16 (.look 17 (.look 18 (.look 19 (.look 20 (.look 22 (.eff 21 (.look 23 (.look 24 (.eff 25 (.look 26 .done))))))))))))))))))))))))))) (⟨_, kp_of (fun _ _ _ => rfl)⟩) (by kernel_rfl) (by kernel_rfl) (fun _ _ d _ _ h => by cases d <;> exact h) ?_
        simp only [Fk.ops, nth]
        repeat (first | ((with_reducible refine wpForkH_look ?_); go_big_quiet_step (fail); (try (with_reducible refine wpQuiet_nil ?_))) | (with_reducible refine wpForkH_eff ?_) | ((with_reducible refine effH_F ?_ ?_); (focus rfl); go_simp) | ((with_reducible refine effH_T ?_ ?_); (focus rfl); (try dsimp only); go_wp2_with ((go_at_call 65; (with_reducible refine (HL.out _ (HwA.out _ (by (try show Ex _ _); with_reducible repeat (first | exact ex_refl _ | assumption | refine ex_drewL ?_ | refine ex_appR ?_ _ | refine ex_wx ?_ _ | refine ex_drew ?_ | refine ex_alloc ?_ _)))).mono ?_); rintro e w7 ⟨rfl, X7, rfl⟩)); (first | done | refine mixQH_mk (⟨_, kp_of (by intro x hx hp9; first | (refine (ex_below (?_ : Ex A _)).block x hx; (with_reducible repeat (first | exact ex_refl _ | assumption | refine ex_drewL ?_ | refine ex_appR ?_ _ | refine ex_wx ?_ _ | refine ex_drew ?_ | refine ex_alloc ?_ _)); done) | (refine ((ex_below (?_ : Ex (A.setCells g6 0 (CR c).toList) _)).block x (by rw [setCells_size]; exact hx)).trans (setCells_heap _ _ _ _ _ (HP1.out x hp9)); (with_reducible repeat (first | exact ex_refl _ | assumption | refine ex_drewL ?_ | refine ex_appR ?_ _ | refine ex_wx ?_ _ | refine ex_drew ?_ | refine ex_alloc ?_ _)); done))⟩) ?_)))
        all_goals (with_reducible refine wpForkH_nil ?_)
        go_wp2
        refine ret_rowV (cs := CR c) Tryd.results41 Tryd.underlying62 rfl info_clm rfl (HB6.out _ (by (try show Ex _ _); with_reducible repeat (first | exact ex_refl _ | assumption | refine ex_drewL ?_ | refine ex_appR ?_ _ | refine ex_wx ?_ _ | refine ex_drew ?_ | refine ex_alloc ?_ _))) rfl rfl ?_
        refine post_mk' (v' := .tuple #[.agg (CR c), .bool false]) (congrArg (fun b => Value.tuple #[.agg (CR c), .bool b]) (Eq.symm ?_)) (by show Ex _ _; repeat (first | (with_reducible assumption) | (with_reducible exact ex_refl _) | (with_reducible refine ex_wx ?_ _) | (with_reducible refine ex_drew ?_) | (with_reducible refine ex_alloc ?_ _) | (with_reducible refine ex_setCells ?_ hwg _ _) | (with_reducible exact HwA.out _ (ex_refl _))))
        rw [Bool.eq_false_iff]
        intro hh
        simp only [Bool.and_eq_true, decide_eq_true_eq, beq_iff_eq, Bool.false_eq_true, and_false, false_and] at hh
        try omega
  all_goals
    refine wp_region_forkH (fun w' => ∃ X, w' = kp A P1 X) (.look 0 (.look 1 (.look 2 (.look 3 (.look 4 (.look 5 (.look 6 (.look 7 (.look 8 (.look 9 (.look 10 (.look 11 (.look 12 (.look 13 (.look 14 (.look 15 (.look 16 (.look 17 (.look 18 (.look 19 (.look 20 (.look 22 (.eff 21 (.look 23 (.look 24 (.eff 25 (.look 26 .done))))))))))))))))))))))))))) (⟨_, kp_of (fun _ _ _ => rfl)⟩) (by kernel_rfl) (by kernel_rfl) (fun _ _ d _ _ h => by cases d <;> exact h) ?_
    simp only [Fk.ops, nth]
    repeat (first | ((with_reducible refine wpForkH_look ?_); go_big_quiet_step (fail); (try (with_reducible refine wpQuiet_nil ?_))) | (with_reducible refine wpForkH_eff ?_) | ((with_reducible refine effH_F ?_ ?_); (focus rfl); go_simp) | ((with_reducible refine effH_T ?_ ?_); (focus rfl); (try dsimp only); go_wp2_with ((go_at_call 65; (with_reducible refine (HL.out _ (HwA.out _ (by (try show Ex _ _); with_reducible repeat (first | exact ex_refl _ | assumption | refine ex_drewL ?_ | refine ex_appR ?_ _ | refine ex_wx ?_ _ | refine ex_drew ?_ | refine ex_alloc ?_ _)))).mono ?_); rintro e w7 ⟨rfl, X7, rfl⟩)); (first | done | refine mixQH_mk (⟨_, kp_of (by intro x hx hp9; first | (refine (ex_below (?_ : Ex A _)).block x hx; (with_reducible repeat (first | exact ex_refl _ | assumption | refine ex_drewL ?_ | refine ex_appR ?_ _ | refine ex_wx ?_ _ | refine ex_drew ?_ | refine ex_alloc ?_ _)); done) | (refine ((ex_below (?_ : Ex (A.setCells g6 0 (CR c).toList) _)).block x (by rw [setCells_size]; exact hx)).trans (setCells_heap _ _ _ _ _ (HP1.out x hp9)); (with_reducible repeat (first | exact ex_refl _ | assumption | refine ex_drewL ?_ | refine ex_appR ?_ _ | refine ex_wx ?_ _ | refine ex_drew ?_ | refine ex_alloc ?_ _)); done))⟩) ?_)))
    all_goals (with_reducible refine wpForkH_nil ?_)
    go_wp2
    refine ret_rowV (cs := CR c) Tryd.results41 Tryd.underlying62 rfl info_clm rfl (HB6.out _ (by (try show Ex _ _); with_reducible repeat (first | exact ex_refl _ | assumption | refine ex_drewL ?_ | refine ex_appR ?_ _ | refine ex_wx ?_ _ | refine ex_drew ?_ | refine ex_alloc ?_ _))) rfl rfl ?_
    refine post_mk' (v' := .tuple #[.agg (CR c), .bool false]) (congrArg (fun b => Value.tuple #[.agg (CR c), .bool b]) (Eq.symm ?_)) (by show Ex _ _; repeat (first | (with_reducible assumption) | (with_reducible exact ex_refl _) | (with_reducible refine ex_wx ?_ _) | (with_reducible refine ex_drew ?_) | (with_reducible refine ex_alloc ?_ _) | (with_reducible refine ex_setCells ?_ hwg _ _) | (with_reducible exact HwA.out _ (ex_refl _))))
    rw [Bool.eq_false_iff]
    intro hh
    simp only [Bool.and_eq_true, decide_eq_true_eq, beq_iff_eq, Bool.false_eq_true, and_false, false_and] at hh
    try omega
end Go.Proofs.YtabjamkkhlbajaaDoor

/- The log: rows of sectors that are compared; rows of bytes; what whole finds, step by step. -/
set_option linter.unusedSimpArgs false
set_option linter.unusedVariables false
set_option linter.unnecessarySimpa false
set_option maxRecDepth 20000
namespace Go.Proofs.YtabjamkkhlbajaaDoor
open Go.RowKit
theorem list_eqW {α : Type} {l m : List α} {n : Nat} (h1 : l.length = n) (h2 : m.length = n) (h : ∀ (k : Nat), k < n → l[k]? = m[k]?) : l = m := by
  apply List.ext_getElem?
  intro i
  by_cases hi : i < n
  · exact h i hi
  · rw [List.getElem?_eq_none (by omega), List.getElem?_eq_none (by omega)]
set_option maxHeartbeats 400000 in
theorem eqBk_any (l m : List Bk) (v u : Value) (w : World) (hs : SlV1 KK 64 w v l) (ht : SlV1 KK 64 w u m) (hl : l.length ≤ 1000000) (hm : m.length ≤ 1000000) :
    Calls Tryd.prog 70 #[v, u] w (Post w (.bool (decide (l = m)))) := by
  obtain ⟨a, c, rfl, h1, h2, _, h4⟩ := hs.out
  obtain ⟨b, e, rfl, k1, k2, _, k4⟩ := ht.out
  unfold maxLen at h2 k2
  have HS := Lib.hid h4
  have HT := Lib.hid k4
  clear hs ht h4 k4
  by_cases hlm : l.length = m.length
  · obtain ⟨n, hn⟩ : ∃ n, l.length = n := ⟨_, rfl⟩
    have hn2 : m.length = n := by omega
    have Hn := Lib.hid hn
    have Hn2 := Lib.hid hn2
    rw [hn] at h1 hl ⊢
    rw [hn2] at k1 hm ⊢
    clear hn hn2 hlm
    go_enter Tryd.func70, Tryd.ntmps70
    go_wp2
    go_loopw [13] (fun i W => ∃ k : Nat, k ≤ n ∧ i = I k ∧ Hid (∀ (j : Nat), j < k → l[j]? = m[j]?) ∧ Ex w W) (fun i _ => n - (intOf i).toNat)
    case atStart => exact ⟨0, by omega, rfl, Lib.hid fun j hj => by omega, (by (try show Ex _ _); with_reducible repeat (first | exact ex_refl _ | assumption | refine ex_drewL ?_ | refine ex_appR ?_ _ | refine ex_wx ?_ _ | refine ex_drew ?_ | refine ex_alloc ?_ _))⟩
    case round =>
      obtain ⟨k, hk, rfl, HE, hw⟩ := hrel
      by_cases hlt : k < n
      · obtain ⟨x, hx⟩ : ∃ x, l[k]? = some x := ⟨_, List.getElem?_eq_getElem (by rw [Hn.out]; exact hlt)⟩
        obtain ⟨y, hy⟩ : ∃ y, m[k]? = some y := ⟨_, List.getElem?_eq_getElem (by rw [Hn2.out]; exact hlt)⟩
        obtain ⟨g, off, rfl, hg, hc⟩ := (HS.out.ex hw).pos (by rw [Hn.out]; omega)
        obtain ⟨g', off', rfl, hg', hc'⟩ := (HT.out.ex hw).pos (by rw [Hn2.out]; omega)
        have c1 := hc k x hx
        have c2 := hc' k y hy
        rw [KK_back] at c1 c2
        have hkn : (k : Int) < n := by omega
        have Hx := Lib.hid hx
        have Hy := Lib.hid hy
        by_cases hxy : x = y
        · have e1 : eqF (bkF x) (bkF y) 64 = true := by rw [eqF_blk]; exact decide_eq_true hxy
          have HE2 : Hid (∀ (j : Nat), j < k + 1 → l[j]? = m[j]?) := Lib.hid fun j hj => by
            by_cases hjk : j < k
            · exact HE.out j hjk
            · obtain rfl : j = k := by omega
              rw [Hx.out, Hy.out, hxy]
          generalize bkF x = fx at *
          generalize bkF y = fy at *
          clear hc hc' hx hy HE hxy
          go_wp2
          refine wp_region_seqA (wr) [(0, true), (1, true), (2, true), (3, true), (4, true), (5, true), (6, true), (7, true), (8, true)] (by (try show Ex _ _); with_reducible repeat (first | exact ex_refl _ | assumption | refine ex_drewL ?_ | refine ex_appR ?_ _ | refine ex_wx ?_ _ | refine ex_drew ?_ | refine ex_alloc ?_ _)) (by kernel_rfl) (by kernel_rfl) (fun _ _ d _ _ h => by cases d <;> exact h) ?_
          simp only [List.map_cons, List.map_nil, nth]
          repeat (first | ((with_reducible refine wpSeq_look ?_); go_big_quiet_step (fail); (with_reducible refine wpQuiet_nil ?_)) | ((with_reducible refine wpSeq_effF ?_ ?_); (focus rfl); go_simp) | ((with_reducible refine wpSeq_eff ?_ ?_); (focus rfl); (try dsimp only); go_wp2_with (fail); refine mixQ_mk (by (try show Ex _ _); with_reducible repeat (first | exact ex_refl _ | assumption | refine ex_drewL ?_ | refine ex_appR ?_ _ | refine ex_wx ?_ _ | refine ex_drew ?_ | refine ex_alloc ?_ _)) ?_))
          refine wpSeq_nil ?_
          go_wp2
          exact ⟨⟨k + 1, by omega, by go_num, HE2, (by (try show Ex _ _); with_reducible repeat (first | exact ex_refl _ | assumption | refine ex_drewL ?_ | refine ex_appR ?_ _ | refine ex_wx ?_ _ | refine ex_drew ?_ | refine ex_alloc ?_ _))⟩, by simp [intOf]; omega⟩
        · have e1 : eqF (bkF x) (bkF y) 64 = false := by rw [eqF_blk]; exact decide_eq_false hxy
          have hne : decide (l = m) = false := decide_eq_false fun e => by
            rw [e, Hy.out] at Hx
            exact hxy (Option.some.inj Hx.out).symm
          generalize bkF x = fx at *
          generalize bkF y = fy at *
          replace hne := Lib.hid hne
          clear hc hc' hx hy HE hxy
          go_wp2
          refine wp_region_seqA (wr) [(0, true), (1, true), (2, true), (3, true), (4, true), (5, true), (6, true), (7, true), (8, true)] (by (try show Ex _ _); with_reducible repeat (first | exact ex_refl _ | assumption | refine ex_drewL ?_ | refine ex_appR ?_ _ | refine ex_wx ?_ _ | refine ex_drew ?_ | refine ex_alloc ?_ _)) (by kernel_rfl) (by kernel_rfl) (fun _ _ d _ _ h => by cases d <;> exact h) ?_
          simp only [List.map_cons, List.map_nil, nth]
          repeat (first | ((with_reducible refine wpSeq_look ?_); go_big_quiet_step (fail); (with_reducible refine wpQuiet_nil ?_)) | ((with_reducible refine wpSeq_effF ?_ ?_); (focus rfl); go_simp) | ((with_reducible refine wpSeq_eff ?_ ?_); (focus rfl); (try dsimp only); go_wp2_with (fail); refine mixQ_mk (by (try show Ex _ _); with_reducible repeat (first | exact ex_refl _ | assumption | refine ex_drewL ?_ | refine ex_appR ?_ _ | refine ex_wx ?_ _ | refine ex_drew ?_ | refine ex_alloc ?_ _)) ?_))
          refine wpSeq_nil ?_
          go_wp2
          go_ret
          exact post_mk' (v' := .bool false) (by rw [hne.out]) (by (try show Ex _ _); with_reducible repeat (first | exact ex_refl _ | assumption | refine ex_drewL ?_ | refine ex_appR ?_ _ | refine ex_wx ?_ _ | refine ex_drew ?_ | refine ex_alloc ?_ _))
      · obtain rfl : k = n := by omega
        have hd : decide (l = m) = true := decide_eq_true (list_eqW Hn.out Hn2.out HE.out)
        replace hd := Lib.hid hd
        clear HE hlt
        go_wp2
        go_ret
        exact post_mk' (v' := .bool true) (by rw [hd.out]) (by (try show Ex _ _); with_reducible repeat (first | exact ex_refl _ | assumption | refine ex_drewL ?_ | refine ex_appR ?_ _ | refine ex_wx ?_ _ | refine ex_drew ?_ | refine ex_alloc ?_ _))
  · have hd : decide (l = m) = false := decide_eq_false fun e => hlm (by rw [e])
    rw [hd]
    have q1 : ((l.length : Int) != m.length) = true := by simp; omega
    have q2 : ((l.length : Int) == m.length) = false := by simp; omega
    clear hd HS HT
    go_enter Tryd.func70, Tryd.ntmps70
    go_wp2
    go_ret
    exact post_mk' rfl (by (try show Ex _ _); with_reducible repeat (first | exact ex_refl _ | assumption | refine ex_drewL ?_ | refine ex_appR ?_ _ | refine ex_wx ?_ _ | refine ex_drew ?_ | refine ex_alloc ?_ _))
theorem whole_fuel : ∀ (f g : Nat) (l : List Bk), l.length ≤ f → l.length ≤ g → wholeP f l = wholeP g l
  | f, g, [], _, _ => by cases f <;> cases g <;> rfl
  | 0, _, b :: r, h, _ => by simp at h
  | _ + 1, 0, b :: r, _, h => by simp at h
  | f + 1, g + 1, b :: r, h, k => by
    have hp := secs_pos (num4 (blkL b))
    have hl : ((b :: r).drop (secs (num4 (blkL b)))).length ≤ r.length := by rw [List.length_drop, List.length_cons]; omega
    rw [List.length_cons] at h k
    unfold wholeP
    rw [whole_fuel f g _ (by omega) (by omega)]
theorem wholeW_cons (b : Bk) (r : List Bk) : wholeW (b :: r) = if 50000 < num4 (blkL b) ∨ r.length + 1 < secs (num4 (blkL b)) then none
    else if sheetB ((((((b :: r).take (secs (num4 (blkL b)))).flatMap blkL).drop 4).take (num4 (blkL b)))) = (b :: r).take (secs (num4 (blkL b))) then
      (wholeW ((b :: r).drop (secs (num4 (blkL b))))).map (((((b :: r).take (secs (num4 (blkL b)))).flatMap blkL).drop 4).take (num4 (blkL b)) :: ·)
    else none := by
  have hp := secs_pos (num4 (blkL b))
  have hl : ((b :: r).drop (secs (num4 (blkL b)))).length ≤ r.length := by rw [List.length_drop, List.length_cons]; omega
  show wholeP (r.length + 1) (b :: r) = _
  unfold wholeW
  rw [← whole_fuel r.length _ ((b :: r).drop (secs (num4 (blkL b)))) hl (Nat.le_refl _)]
  rfl
end Go.Proofs.YtabjamkkhlbajaaDoor

/- The log: the sheets that stand in sectors. -/
set_option linter.unusedSimpArgs false
set_option linter.unusedVariables false
set_option linter.unnecessarySimpa false
set_option maxRecDepth 20000
namespace Go.Proofs.YtabjamkkhlbajaaDoor
open Go.RowKit
theorem SlV1.cut {w : World} {a : Option Addr} {n c : Nat} {l : List Bk} (h : SlV1 KK 64 w (.slice a n c) l) {k : Nat} (hk : k ≤ l.length) : SlV1 KK 64 w (.slice a k c) (l.take k) := by
  obtain ⟨a', c', hv, h1, h2, h3, h4⟩ := h.out
  obtain ⟨rfl, rfl, rfl⟩ := Value.slice.inj hv
  have e : (l.take k).length = k := by rw [List.length_take]; omega
  exact ⟨a, c, by rw [e], by rw [e]; omega, h2, h3, h4.take k⟩
theorem SlV1.off {w : World} {g off n c : Nat} {l : List Bk} (h : SlV1 KK 64 w (.slice (some ⟨g, off, none⟩) n c) l) {k : Nat} (hk : k ≤ l.length) : SlV1 KK 64 w (.slice (some ⟨g, off + k * 64, none⟩) (n - k) (c - k)) (l.drop k) := by
  obtain ⟨a', c', hv, h1, h2, h3, h4⟩ := h.out
  obtain ⟨rfl, rfl, rfl⟩ := Value.slice.inj hv
  have e : (l.drop k).length = l.length - k := List.length_drop
  exact ⟨_, c - k, by rw [e], by rw [e]; omega, by omega, (fun e => by cases e), h4.drop k⟩
/-- Blocks of bytes are kept. -/
def K8 (w w' : World) : Prop := ∀ (g : Nat) (cs : Array Value) (fr : Nat × Nat), w.heap[g]? = some (.cells cs 5 fr) → w'.heap[g]? = some (.cells cs 5 fr)
theorem K8.ex {w w' : World} (k : Ex w w') : K8 w w' := fun g cs fr h => ex_block k h
theorem K8.trans {a b c : World} (h : K8 a b) (k : K8 b c) : K8 a c := fun g cs fr h1 => k g cs fr (h g cs fr h1)
theorem TyB.k8 {w w' : World} {v : Value} {l : By} (h : TyB w v l) (k : K8 w w') : TyB w' v l := by
  obtain ⟨a, c, rfl, h1, h2, h3, h4⟩ := h.out
  refine ⟨a, c, rfl, h1, h2, h3, h4.imp id ?_⟩
  rintro ⟨g, off, cs, fr, rfl, hb, hc⟩
  exact ⟨g, off, cs, fr, rfl, k g cs fr hb, hc⟩
theorem K8.apd {w w' : World} {Z n : Nat} {v v' : Value} {us : List Value} (h : w.ownsRow Z 22 1 v n us) (k : Apd w w' v v') : K8 w w' := fun g cs fr hg => by
  rw [k.block g (Array.getElem?_eq_some_iff.1 hg).1 fun e => ?_]
  · exact hg
  · rcases h.2 with ⟨rfl, _⟩ | ⟨g', cap, cur, rfl, _, h2, _⟩
    · cases e
    · obtain rfl : g' = g := Option.some.inj e
      rw [h2] at hg
      injection hg with hg
      injection hg with _ ht _
      exact absurd ht (by decide)
/-- Sheets in a row of the call's own. -/
structure ShO (W : World) (Z : Nat) (v : Value) (ls : List By) : Prop where
  out : ∃ us : List Value, W.ownsRow Z 22 1 v ls.length us ∧ ∀ (j : Nat) (l : By), ls[j]? = some l → ∃ u, us[j]? = some u ∧ TyB W u l
theorem ShO.nil (W : World) (Z : Nat) : ShO W Z (.slice none 0 0) [] := ⟨[], World.ownsRow_nil _ _ _ _, fun j l h => by simp at h⟩
theorem ShO.ex {W W' : World} {Z : Nat} {v : Value} {ls : List By} (h : ShO W Z v ls) (k : Ex W W') : ShO W' Z v ls := by
  obtain ⟨us, h1, h2⟩ := h.out
  exact ⟨us, owns_ex h1 k, fun j l hl => by
    obtain ⟨u, q1, q2⟩ := h2 j l hl
    exact ⟨u, q1, q2.ky (Ky.ex k)⟩⟩
theorem ShO.sh {W : World} {Z : Nat} {v : Value} {ls : List By} (h : ShO W Z v ls) : SlSh W v ls := by
  obtain ⟨us, h1, h2⟩ := h.out
  exact slsh_own h1 rfl h2
theorem ShO.form {W : World} {Z : Nat} {v : Value} {ls : List By} (h : ShO W Z v ls) : ∃ a c, v = .slice a ls.length c ∧ (ls.length ≤ c ∧ c ≤ maxLen) := by
  obtain ⟨us, h1, _⟩ := h.out
  obtain ⟨a, c, hv, h2, h3, _⟩ := own_form h1
  exact ⟨a, c, hv, h2, h3⟩
/-- A sheet's slice behind others in a row of the call's own. -/
theorem wpAppO {ops : Array Oper} {rest : List Oper} {o : Oper} {a : Act} {w : World} {Q : Exit → Act → World → Prop} (s x : Operand) (hgd : o.guard = none)
    (ho : o.op = .call { callee := .builtin .append, args := #[s, x], argTypes := #[30, 30] })
    {Z : Nat} {v : Value} {ls : List By} {b : By} (hown : ShO w Z v ls) (hs : a.eval s = v) {g c : Nat} {u : Value} (hx : a.eval x = .slice (some ⟨g, 0, none⟩) 1 c) (hc : w.cell? ⟨g, 0, none⟩ = some u) (hu : TyB w u b) (hb : ls.length ≤ 1000000) (hZ : Z ≤ w.heap.size)
    (h : ∀ v' w', ShO w' Z v' (ls ++ [b]) → Below Z w w' → K8 w w' → Apd w w' v v' → wpList Tryd.prog ops Q rest (a.put o.dst v') w') : wpList Tryd.prog ops Q (o :: rest) a w := by
  obtain ⟨us, h1, h2⟩ := hown.out
  have hl : us.length = ls.length := by have := h1.1; omega
  have h1u : u.oneCell' = true := by obtain ⟨_, _, rfl, _⟩ := hu.out; rfl
  refine wpApd appSh s x hgd ho h1 hs ⟨g, 0, none⟩ 1 c [u] hx rfl (fun j y hj => ?_) (fun y hy => by rw [List.mem_singleton.1 hy]; exact h1u) (by unfold maxLen; omega) (by omega) hZ fun v' w' k1 k2 => ?_
  · match j, hj with
    | 0, hj => rw [show y = u from (Option.some.inj hj).symm]; simpa [Addr.add] using hc
  · have k8 := K8.apd h1 k2
    refine h v' w' ⟨us ++ [u], by rw [List.length_append]; exact k1, fun j l hj => ?_⟩ (k2.below hZ fun g hg => (World.ownsRow.lt h1 g hg).1) k8 k2
    by_cases hlt : j < ls.length
    · rw [List.getElem?_append_left hlt] at hj
      obtain ⟨y, q1, q2⟩ := h2 j l hj
      exact ⟨y, by rw [List.getElem?_append_left (by omega)]; exact q1, q2.k8 k8⟩
    · have hj2 := (List.getElem?_eq_some_iff.1 hj).1
      rw [List.length_append, List.length_singleton] at hj2
      obtain rfl : j = ls.length := by omega
      rw [List.getElem?_append_right (Nat.le_refl _), Nat.sub_self] at hj
      obtain rfl : b = l := by simpa using hj
      exact ⟨u, by rw [List.getElem?_append_right (by omega), hl, Nat.sub_self]; rfl, hu.k8 k8⟩
theorem slt_blk {w w' : World} {g : Nat} (y : Bk) (hg : g = w.heap.size) (k : Ex (w.alloc (.cells (rowB 64 (bkF y)) 75)) w') : SlT w' (.slice (some ⟨g, 0, none⟩) 64 64) (blkL y) := by
  subst hg
  have hb := ex_block k (heap_alloc_new w _)
  have hl := blkL_len y
  refine ⟨_, 64, by rw [hl], by rw [hl]; omega, by decide, (fun e => by cases e), SlB.mk' (Array.getElem?_eq_some_iff.1 hb).1 fun j hj => ?_⟩
  rw [hl] at hj
  rw [cell_of_row w' w.heap.size (0 + j) _ _ _ hb, rowB_get, if_pos (by omega), Nat.zero_add]
  unfold gF
  rw [blkL_get]
theorem flat_blkL_len (l : List Bk) : (l.flatMap blkL).length = 64 * l.length := by
  induction l with
  | nil => rfl
  | cons b r ih => rw [List.flatMap_cons, List.length_append, ih, blkL_len, List.length_cons]; omega
theorem TyB.mid {w : World} {g off m c i n c2 : Nat} {l : By} (h : TyB w (.slice (some ⟨g, off, none⟩) m c) l) (hin : i + n ≤ l.length) (h1 : n ≤ c2) (h2 : c2 ≤ maxLen) : TyB w (.slice (some ⟨g, off + i, none⟩) n c2) ((l.drop i).take n) := by
  have e : ((l.drop i).take n).length = n := by rw [List.length_take, List.length_drop]; omega
  obtain ⟨a', c', hv, _, _, _, h4⟩ := h.out
  obtain ⟨ha, _, _⟩ := Value.slice.inj hv
  refine ⟨_, c2, by rw [e], by rw [e]; exact h1, h2, (fun e => by cases e), ?_⟩
  rcases h4 with h0 | ⟨g', off', cs, fr, e2, hb, hc⟩
  · left
    rw [h0]; simp
  · rw [← ha] at e2
    cases e2
    refine Or.inr ⟨g, off + i, cs, fr, rfl, hb, fun j hj => ?_⟩
    rw [e] at hj
    rw [Nat.add_assoc, hc (i + j) (by omega)]
    unfold gF
    rw [List.getD_eq_getElem?_getD, List.getD_eq_getElem?_getD, List.getElem?_take_of_lt hj, List.getElem?_drop]
theorem TyB.zero (w : World) (a : Option Addr) : TyB w (.slice a 0 0) [] := ⟨a, 0, rfl, by simp, by decide, fun _ => rfl, Or.inl rfl⟩
def PostWh (w : World) (r : Option (List By)) (e : Ending) (w' : World) : Prop := ∃ u b, e = .returned (.tuple #[u, .bool b]) ∧ (∃ X, w' = wx w X) ∧ b = r.isSome ∧ ShO w' w.heap.size u (r.getD [])
set_option maxHeartbeats 1000000 in
theorem whole_any {w : World} (l : List Bk) (v : Value) (hs : SlV1 KK 64 w v l) (hl : l.length ≤ 1000) : Calls Tryd.prog 43 #[v] w (PostWh w (wholeW l)) := by
  have HS0 := Lib.hid hs
  obtain ⟨a0, c0, rfl, _, _, _, _⟩ := hs.out
  clear hs
  go_enter Tryd.func43, Tryd.ntmps43
  go_wp2
  go_loopw [0, 2] (fun v0 vo W => ∃ (r : List Bk) (outs : List By), r.length ≤ l.length ∧ outs.length ≤ l.length ∧ Hid (wholeW l = (wholeW r).map (outs ++ ·)) ∧ Hid (SlV1 KK 64 w v0 r) ∧ Hid (ShO W w.heap.size vo outs) ∧ outs.length + r.length ≤ l.length ∧ Ex w W ∧ (∃ a c, v0 = .slice a r.length c)) (fun v0 _ _ => match v0 with | .slice _ n _ => n | _ => 0)
  case atStart => exact ⟨l, [], Nat.le_refl _, by simp, Lib.hid (by cases wholeW l <;> rfl), HS0, Lib.hid (ShO.nil _ _), by simp, (by (try show Ex _ _); with_reducible repeat (first | exact ex_refl _ | assumption | refine ex_drewL ?_ | refine ex_appR ?_ _ | refine ex_wx ?_ _ | refine ex_drew ?_ | refine ex_alloc ?_ _)), ⟨_, _, rfl⟩⟩
  case round =>
    obtain ⟨r, outs, hrl, hol, HW, HV, HO, hsum, hw, av, cv, rfl⟩ := hrel
    obtain ⟨w1, rfl⟩ : ∃ w1, w1 = wr := ⟨_, rfl⟩
    obtain ⟨av', cv', hv', s1, s2, s3, s4⟩ := HV.out.out
    obtain ⟨rfl, _, rfl⟩ := Value.slice.inj hv'
    clear hv'
    unfold maxLen at s2
    cases r with
    | nil =>
      have hfin : Hid (PostWh w (wholeW l) (.returned (.tuple #[u2, .bool true])) w1) := Lib.hid ⟨u2, true, rfl, hw, by rw [HW.out]; rfl, by rw [HW.out]; show ShO w1 _ u2 (outs ++ []); rw [List.append_nil]; exact HO.out⟩
      clear HW HV HO s3 s4
      rw [List.length_nil] at *
      go_wp2
      go_ret2
      exact hfin.out
    | cons x r' =>
      have hx4 : num4 (((blkL x).take 4).drop 0) = num4 (blkL x) := num4_take _ _ _ (by omega)
      have hwc := wholeW_cons x r'
      have hn32 := num4_lt (blkL x)
      obtain ⟨n, hn⟩ : ∃ n, num4 (blkL x) = n := ⟨_, rfl⟩
      rw [hn] at hx4 hwc hn32
      obtain ⟨R, hR⟩ : ∃ R, (x :: r').length = R := ⟨_, rfl⟩
      have hR1 : R = r'.length + 1 := by rw [← hR]; rfl
      obtain ⟨g, off, rfl, hg, hcell⟩ := s4.pos (by simp)
      have hl4 : ((blkL x).take 4).length = 4 := by rw [List.length_take, blkL_len]; rfl
      have HS4 : Hid (SlT w1 (.slice (some ⟨g, off, none⟩) 4 64) ((blkL x).take 4)) := Lib.hid (SlT.ex (w := w) ⟨_, 64, by rw [hl4], by rw [hl4]; omega, by decide, (fun e => by cases e), SlB.mk' hg fun j hj => by
        rw [hl4] at hj
        have := (cellsN_some.1 (hcell 0 x rfl)).2 j (by omega)
        rw [KK_back, rowB_get, if_pos (by omega), Nat.zero_mul, Nat.add_zero] at this
        rw [this]
        unfold gF
        rw [List.getD_eq_getElem?_getD, List.getElem?_take_of_lt hj, ← blkL_get, List.getD_eq_getElem?_getD]⟩ hw)
      have Hx4 := Lib.hid hx4
      have Hwc := Lib.hid hwc
      have Hl4 := Lib.hid hl4
      rw [hR] at hrl hsum s1 HV
      have HR := Lib.hid hR
      have HSc : Hid (∀ w', Calls Tryd.prog 10 #[I n] w' (Post w' (I (secI n)))) := Lib.hid fun w' => sectors_any n (by omega) (by omega) w'
      have hfz : Hid (∀ W', wholeW l = none → Ex w W' → PostWh w (wholeW l) (.returned (.tuple #[.slice none 0 0, .bool false])) W') := Lib.hid fun W' h0 k => by rw [h0]; exact ⟨_, false, rfl, k, rfl, ShO.nil _ _⟩
      have hRp : (0 : Int) < R := by omega
      have hRc : (R : Int) ≤ cv := by omega
      rw [hR]
      clear hx4 hwc hl4 hcell s3 s4 hR hn
      by_cases hA : 50000 < n
      · have hno : wholeW l = none := by rw [HW.out, Hwc.out, if_pos (Or.inl hA)]; rfl
        have Hno := Lib.hid hno
        have t1 : decide ((50000 : Int) < n) = true := decide_eq_true (by omega)
        clear hno HW HO HV
        go_wp2_with (first | (go_at_call 67; (refine (read0_new (l := (blkL x).take 4) (ex_refl _) HS4.out (by rw [Hl4.out]; omega)).mono ?_); rintro e w2 ⟨q, rfl, H, kq⟩; replace H := Lib.hid H; clear kq) | (go_at_call 68; (refine (u32x_any (k := 0) H.out (by rw [Hl4.out]; omega) Hx4.out).mono ?_); clear H; rintro e w3 ⟨rfl, H⟩; replace H := ex_trans hw H.ex))
        go_ret2
        exact hfz.out _ Hno.out (by (try show Ex _ _); with_reducible repeat (first | exact ex_refl _ | assumption | refine ex_drewL ?_ | refine ex_appR ?_ _ | refine ex_wx ?_ _ | refine ex_drew ?_ | refine ex_alloc ?_ _))
      · have t1 : decide ((50000 : Int) < n) = false := decide_eq_false (by omega)
        have hk0 := secI_nat (n := n) (by omega)
        rw [hk0] at HSc
        obtain ⟨k, hk⟩ : ∃ k, secs n = k := ⟨_, rfl⟩
        have hk1 : 1 ≤ k ∧ k ≤ 1000 := by rw [← hk]; unfold secs; omega
        have hfit : 4 + n ≤ 64 * k := by rw [← hk]; exact secs_fit n
        rw [hk] at HSc Hwc
        have Hk := Lib.hid hk
        obtain ⟨hk1, hk2⟩ := hk1
        clear hk0 hk
        by_cases hB : R < k
        · have hno : wholeW l = none := by rw [HW.out, Hwc.out, if_pos (Or.inr (by omega))]; rfl
          have Hno := Lib.hid hno
          have t2 : decide ((R : Int) < k) = true := decide_eq_true (by omega)
          clear hno HW HO HV
          go_wp2_with (first | (go_at_call 67; (refine (read0_new (l := (blkL x).take 4) (ex_refl _) HS4.out (by rw [Hl4.out]; omega)).mono ?_); rintro e w2 ⟨q, rfl, H, kq⟩; replace H := Lib.hid H; clear kq) | (go_at_call 68; (refine (u32x_any (k := 0) H.out (by rw [Hl4.out]; omega) Hx4.out).mono ?_); clear H; rintro e w3 ⟨rfl, H⟩; replace H := ex_trans hw H.ex) | (go_at_call 10; (with_reducible refine (HSc.out _).mono ?_); rintro e w4 ⟨rfl, X4, rfl⟩))
          go_ret2
          exact hfz.out _ Hno.out (by (try show Ex _ _); with_reducible repeat (first | exact ex_refl _ | assumption | refine ex_drewL ?_ | refine ex_appR ?_ _ | refine ex_wx ?_ _ | refine ex_drew ?_ | refine ex_alloc ?_ _))
        · have t2 : decide ((R : Int) < k) = false := decide_eq_false (by omega)
          have hkR : (k : Int) ≤ R := by omega
          have hkc : (k : Int) ≤ cv := by omega
          obtain ⟨xs, hxs⟩ : ∃ xs, (x :: r').take k = xs := ⟨_, rfl⟩
          have hxl : xs.length = k := by rw [← hxs, List.length_take, HR.out]; omega
          have HVk : Hid (SlV1 KK 64 w (.slice (some ⟨g, off, none⟩) k cv) xs) := Lib.hid (by rw [← hxs]; exact SlV1.cut HV.out (by rw [HR.out]; omega))
          rw [if_neg (by omega), hxs] at Hwc
          have Hxs := Lib.hid hxs
          have Hxl := Lib.hid hxl
          clear hxs hxl
          go_wp2_with (first | (go_at_call 67; (refine (read0_new (l := (blkL x).take 4) (ex_refl _) HS4.out (by rw [Hl4.out]; omega)).mono ?_); rintro e w2 ⟨q, rfl, H, kq⟩; replace H := Lib.hid H; clear kq) | (go_at_call 68; (refine (u32x_any (k := 0) H.out (by rw [Hl4.out]; omega) Hx4.out).mono ?_); clear H; rintro e w3 ⟨rfl, H⟩; replace H := H.ex) | (go_at_call 10; (with_reducible refine (HSc.out _).mono ?_); rintro e w4 ⟨rfl, X4, rfl⟩))
          refine wp_worldW fun C hC => ?_
          have kC : Ex w1 C := by rw [← hC]; exact (by (try show Ex _ _); with_reducible repeat (first | exact ex_refl _ | assumption | refine ex_drewL ?_ | refine ex_appR ?_ _ | refine ex_wx ?_ _ | refine ex_drew ?_ | refine ex_alloc ?_ _))
          have kwC := ex_trans hw kC
          clear hC
          have zC := ex_size kwC
          clear HS4 Hx4 Hl4 HSc t1 t2 hB
          go_loopw [6, 34] (fun vb i W => ∃ j : Nat, j ≤ k ∧ i = I j ∧ Hid (OwnW W C.heap.size vb ((xs.take j).flatMap blkL)) ∧ Ex C W) (fun _ i _ => k - (intOf i).toNat)
          case atStart => exact ⟨0, by omega, rfl, Lib.hid (by rw [List.take_zero]; exact owns_nil _ _ _ _), (by (try show Ex _ _); with_reducible repeat (first | exact ex_refl _ | assumption | refine ex_drewL ?_ | refine ex_appR ?_ _ | refine ex_wx ?_ _ | refine ex_drew ?_ | refine ex_alloc ?_ _))⟩
          case round =>
            obtain ⟨j, hj, rfl, HB, hCw⟩ := hrel
            have kww := ex_trans kwC hCw
            have hzw := ex_size hCw
            by_cases hlt : j < k
            · obtain ⟨y, hy⟩ : ∃ y, xs[j]? = some y := ⟨_, List.getElem?_eq_getElem (by rw [Hxl.out]; exact hlt)⟩
              have hcell : cellsN wr g (off + j * 64) 64 = some (rowB 64 (bkF y)) := by
                obtain ⟨a', c', hv', _, _, _, q4⟩ := (HVk.out.ex kww).out
                obtain ⟨ha, _, _⟩ := Value.slice.inj hv'
                rw [← ha] at q4
                have := (SlR.at q4 hy).1
                rw [KK_back] at this; exact this
              have hy2 : (xs.take (j + 1)).flatMap blkL = (xs.take j).flatMap blkL ++ blkL y := by
                rw [List.take_add_one, hy, List.flatMap_append]; simp
              have hlj : ((xs.take j).flatMap blkL).length = 64 * j := by rw [flat_blkL_len, List.length_take, Hxl.out]; congr 1; omega
              have Hy2 := Lib.hid hy2
              have Hlj := Lib.hid hlj
              have hjk : (j : Int) < k := by omega
              have Hyl := Lib.hid (blkL_len y)
              clear hy hy2 hlj
              go_wp2_with (at_builtin; refine wpAppW (Z := C.heap.size) _ _ rfl rfl (HB.out.ex (by (try show Ex _ _); with_reducible repeat (first | exact ex_refl _ | assumption | refine ex_drewL ?_ | refine ex_appR ?_ _ | refine ex_wx ?_ _ | refine ex_drew ?_ | refine ex_alloc ?_ _))) rfl rfl (slt_blk (w := wr) y rfl (by (try show Ex _ _); with_reducible repeat (first | exact ex_refl _ | assumption | refine ex_drewL ?_ | refine ex_appR ?_ _ | refine ex_wx ?_ _ | refine ex_drew ?_ | refine ex_alloc ?_ _))) (by rw [Hlj.out, Hyl.out]; omega) (by simp [go_sem] <;> omega) (fun v1 w8 hown hA => ?_); obtain ⟨X5, rfl⟩ := exOf (A := C) (by (try show Ex _ _); with_reducible repeat (first | exact ex_refl _ | assumption | refine ex_drewL ?_ | refine ex_appR ?_ _ | refine ex_wx ?_ _ | refine ex_drew ?_ | refine ex_alloc ?_ _)) hA)
              exact ⟨⟨j + 1, by omega, by go_num, Lib.hid (by rw [Hy2.out]; exact hown), (by (try show Ex _ _); with_reducible repeat (first | exact ex_refl _ | assumption | refine ex_drewL ?_ | refine ex_appR ?_ _ | refine ex_wx ?_ _ | refine ex_drew ?_ | refine ex_alloc ?_ _))⟩, by simp [intOf]; omega⟩
            · obtain rfl : j = k := by omega
              have hB := HB.out
              rw [List.take_of_length_le (Nat.le_of_eq Hxl.out)] at hB
              obtain ⟨gb, cb, rfl, hb1, hb2, _, hb4, hb5⟩ := own_cellsW hB (show _ = 64 * j by rw [flat_blkL_len, Hxl.out]) (by omega)
              have hT0 := hB.tyb
              obtain ⟨data, hdata⟩ : ∃ data, ((xs.flatMap blkL).drop 4).take n = data := ⟨_, rfl⟩
              have hdl : data.length = n := by rw [← hdata, List.length_take, List.length_drop, flat_blkL_len, Hxl.out]; omega
              rw [hdata] at Hwc
              obtain ⟨bv, hbv, hTd⟩ : ∃ bv, bv = (if n = 0 then Value.slice (some ⟨gb, 0, none⟩) 0 0 else .slice (some ⟨gb, 4, none⟩) n n) ∧ TyB wr bv data := by
                refine ⟨_, rfl, ?_⟩
                split
                · rename_i h0
                  rw [List.eq_nil_of_length_eq_zero (hdl.trans h0)]; exact TyB.zero _ _
                · rw [← hdata]
                  exact TyB.mid hT0 (by rw [flat_blkL_len, Hxl.out]; omega) (Nat.le_refl _) (by unfold maxLen; omega)
              obtain ⟨sb, hsb⟩ : ∃ sb, sheetB data = sb := ⟨_, rfl⟩
              have hsl : sb.length = j := by rw [← hsb, sheetB_len, hdl, Hk.out]
              rw [hsb] at Hwc
              have HSh : Hid (∀ w', Ex wr w' → Calls Tryd.prog 38 #[bv] w' (fun e w2 => ∃ v', e = .returned v' ∧ w2.ownsRow w'.heap.size 75 64 v' j (sb.flatMap KK) ∧ ∃ X, w2 = wx w' X)) := Lib.hid fun w' k9 => by
                have := sheet_any (hTd.slt.ex k9) (by rw [hdl]; omega)
                rw [hsb, hsl] at this; exact this
              have HTd := Lib.hid hTd
              have Hsl := Lib.hid hsl
              have Hdl := Lib.hid hdl
              have u1 : (4 + (n : Int)) ≤ cb := by omega
              clear hB HB hT0 hdata hsb hsl hdl hTd hlt hj kww
              have kwr := ex_trans kwC hCw
              by_cases hsx : sb = xs
              · have t9 : decide (sb = xs) = true := decide_eq_true hsx
                have hwl : wholeW l = (wholeW ((x :: r').drop j)).map ((outs ++ [data]) ++ ·) := by
                  rw [HW.out, Hwc.out, if_pos hsx, Option.map_map]
                  congr 1
                  funext z
                  simp
                have Hwl := Lib.hid hwl
                have hdr : ((x :: r').drop j).length = R - j := by rw [List.length_drop, HR.out]
                have Hdr := Lib.hid hdr
                have HVd : Hid (cv ≠ j → SlV1 KK 64 w (.slice (some ⟨g, off + j * 64, none⟩) (R - j) (cv - j)) ((x :: r').drop j)) := Lib.hid fun _ => SlV1.off HV.out (by rw [HR.out]; omega)
                have hOw := Lib.hid (HO.out.ex (ex_trans kC hCw))
                obtain ⟨oa, oc, rfl, hoc⟩ := HO.out.form
                clear hwl hdr hsx HO Hwc HW
                have hzwr := ex_size kwr
                by_cases hcj : cv = j
                · have hRj := Lib.hid (show r'.length + 1 = j by omega)
                  have hcj' := hcj.symm
                  subst hcj'
                  clear hcj
                  by_cases hn0 : n = 0
                  · rw [if_pos hn0] at hbv
                    subst hbv
                    go_wp2_with (first | (go_at_call 38; (with_reducible refine (HSh.out _ (by (try show Ex _ _); with_reducible repeat (first | exact ex_refl _ | assumption | refine ex_drewL ?_ | refine ex_appR ?_ _ | refine ex_wx ?_ _ | refine ex_drew ?_ | refine ex_alloc ?_ _))).mono ?_); rintro e w5 ⟨vs, rfl, hvs, X5, rfl⟩; obtain ⟨sa, sc, rfl, _⟩ := own_form9 hvs; have HVs := Lib.hid (SlV1.of_own KK_len (by omega) (by rw [Hsl.out]; exact hvs)); clear hvs) | (go_at_call 70; (refine (eqBk_any sb xs _ _ _ (HVs.out.ex (by (try show Ex _ _); with_reducible repeat (first | exact ex_refl _ | assumption | refine ex_drewL ?_ | refine ex_appR ?_ _ | refine ex_wx ?_ _ | refine ex_drew ?_ | refine ex_alloc ?_ _))) (HVk.out.ex (by (try show Ex _ _); with_reducible repeat (first | exact ex_refl _ | assumption | refine ex_drewL ?_ | refine ex_appR ?_ _ | refine ex_wx ?_ _ | refine ex_drew ?_ | refine ex_alloc ?_ _))) (by rw [Hsl.out]; omega) (by rw [Hxl.out]; omega)).mono ?_); rintro e w6 ⟨rfl, X6, rfl⟩))
                    refine wp_region_seqA (w) [(0, true), (1, true), (4, true), (5, true), (6, true), (7, true), (2, false), (3, false), (8, true), (9, true)] (by (try show Ex _ _); with_reducible repeat (first | exact ex_refl _ | assumption | refine ex_drewL ?_ | refine ex_appR ?_ _ | refine ex_wx ?_ _ | refine ex_drew ?_ | refine ex_alloc ?_ _)) (by kernel_rfl) (by kernel_rfl) (fun _ _ d _ _ h => by cases d <;> exact h) ?_
                    simp only [List.map_cons, List.map_nil, nth]
                    repeat (first | ((with_reducible refine wpSeq_look ?_); go_big_quiet_step (fail); (with_reducible refine wpQuiet_nil ?_)) | ((with_reducible refine wpSeq_effF ?_ ?_); (focus rfl); go_simp) | ((with_reducible refine wpSeq_eff ?_ ?_); (focus rfl); (try dsimp only); go_wp2_with ((at_builtin; refine wpAppO (Z := w.heap.size) (ls := outs) (b := data) _ _ rfl rfl (hOw.out.ex (by (try show Ex _ _); with_reducible repeat (first | exact ex_refl _ | assumption | refine ex_drewL ?_ | refine ex_appR ?_ _ | refine ex_wx ?_ _ | refine ex_drew ?_ | refine ex_alloc ?_ _))) rfl rfl (by simp [go_sem]) (HTd.out.ky (Ky.ex (by (try show Ex _ _); with_reducible repeat (first | exact ex_refl _ | assumption | refine ex_drewL ?_ | refine ex_appR ?_ _ | refine ex_wx ?_ _ | refine ex_drew ?_ | refine ex_alloc ?_ _)))) (by omega) (by simp [go_sem] <;> omega) (fun v9 w9 hS9 hB9 _ _ => ?_); obtain ⟨X9, rfl⟩ := exOf (A := w) (by (try show Ex _ _); with_reducible repeat (first | exact ex_refl _ | assumption | refine ex_drewL ?_ | refine ex_appR ?_ _ | refine ex_wx ?_ _ | refine ex_drew ?_ | refine ex_alloc ?_ _)) hB9; replace hS9 := Lib.hid hS9)); refine mixQ_mk (by (try show Ex _ _); with_reducible repeat (first | exact ex_refl _ | assumption | refine ex_drewL ?_ | refine ex_appR ?_ _ | refine ex_wx ?_ _ | refine ex_drew ?_ | refine ex_alloc ?_ _)) ?_))
                    refine wpSeq_nil ?_
                    go_wp2
                    refine ⟨⟨(x :: r').drop j, outs ++ [data], by rw [Hdr.out]; omega, by rw [List.length_append, List.length_singleton]; omega, Hwl, Lib.hid ?_, Lib.hid (ShO.ex hS9.out (by (try show Ex _ _); with_reducible repeat (first | exact ex_refl _ | assumption | refine ex_drewL ?_ | refine ex_appR ?_ _ | refine ex_wx ?_ _ | refine ex_drew ?_ | refine ex_alloc ?_ _))), by rw [Hdr.out, List.length_append, List.length_singleton]; omega, (by (try show Ex _ _); with_reducible repeat (first | exact ex_refl _ | assumption | refine ex_drewL ?_ | refine ex_appR ?_ _ | refine ex_wx ?_ _ | refine ex_drew ?_ | refine ex_alloc ?_ _)), ⟨_, _, by rw [Hdr.out, hR1]⟩⟩, by show r'.length + 1 - j < R; omega⟩
                    (have q9 : (x :: r').drop j = [] := List.eq_nil_of_length_eq_zero (by rw [Hdr.out]; have := hRj.out; omega); rw [q9]; exact ⟨_, _, by have := hRj.out; rw [this, Nat.sub_self]; rfl, by simp, Nat.zero_le _, (fun e => by cases e), SlR.nil _ _ _ _⟩)
                  · rw [if_neg hn0] at hbv
                    subst hbv
                    go_wp2_with (first | (go_at_call 38; (with_reducible refine (HSh.out _ (by (try show Ex _ _); with_reducible repeat (first | exact ex_refl _ | assumption | refine ex_drewL ?_ | refine ex_appR ?_ _ | refine ex_wx ?_ _ | refine ex_drew ?_ | refine ex_alloc ?_ _))).mono ?_); rintro e w5 ⟨vs, rfl, hvs, X5, rfl⟩; obtain ⟨sa, sc, rfl, _⟩ := own_form9 hvs; have HVs := Lib.hid (SlV1.of_own KK_len (by omega) (by rw [Hsl.out]; exact hvs)); clear hvs) | (go_at_call 70; (refine (eqBk_any sb xs _ _ _ (HVs.out.ex (by (try show Ex _ _); with_reducible repeat (first | exact ex_refl _ | assumption | refine ex_drewL ?_ | refine ex_appR ?_ _ | refine ex_wx ?_ _ | refine ex_drew ?_ | refine ex_alloc ?_ _))) (HVk.out.ex (by (try show Ex _ _); with_reducible repeat (first | exact ex_refl _ | assumption | refine ex_drewL ?_ | refine ex_appR ?_ _ | refine ex_wx ?_ _ | refine ex_drew ?_ | refine ex_alloc ?_ _))) (by rw [Hsl.out]; omega) (by rw [Hxl.out]; omega)).mono ?_); rintro e w6 ⟨rfl, X6, rfl⟩))
                    refine wp_region_seqA (w) [(0, true), (1, true), (4, true), (5, true), (6, true), (7, true), (2, false), (3, false), (8, true), (9, true)] (by (try show Ex _ _); with_reducible repeat (first | exact ex_refl _ | assumption | refine ex_drewL ?_ | refine ex_appR ?_ _ | refine ex_wx ?_ _ | refine ex_drew ?_ | refine ex_alloc ?_ _)) (by kernel_rfl) (by kernel_rfl) (fun _ _ d _ _ h => by cases d <;> exact h) ?_
                    simp only [List.map_cons, List.map_nil, nth]
                    repeat (first | ((with_reducible refine wpSeq_look ?_); go_big_quiet_step (fail); (with_reducible refine wpQuiet_nil ?_)) | ((with_reducible refine wpSeq_effF ?_ ?_); (focus rfl); go_simp) | ((with_reducible refine wpSeq_eff ?_ ?_); (focus rfl); (try dsimp only); go_wp2_with ((at_builtin; refine wpAppO (Z := w.heap.size) (ls := outs) (b := data) _ _ rfl rfl (hOw.out.ex (by (try show Ex _ _); with_reducible repeat (first | exact ex_refl _ | assumption | refine ex_drewL ?_ | refine ex_appR ?_ _ | refine ex_wx ?_ _ | refine ex_drew ?_ | refine ex_alloc ?_ _))) rfl rfl (by simp [go_sem]) (HTd.out.ky (Ky.ex (by (try show Ex _ _); with_reducible repeat (first | exact ex_refl _ | assumption | refine ex_drewL ?_ | refine ex_appR ?_ _ | refine ex_wx ?_ _ | refine ex_drew ?_ | refine ex_alloc ?_ _)))) (by omega) (by simp [go_sem] <;> omega) (fun v9 w9 hS9 hB9 _ _ => ?_); obtain ⟨X9, rfl⟩ := exOf (A := w) (by (try show Ex _ _); with_reducible repeat (first | exact ex_refl _ | assumption | refine ex_drewL ?_ | refine ex_appR ?_ _ | refine ex_wx ?_ _ | refine ex_drew ?_ | refine ex_alloc ?_ _)) hB9; replace hS9 := Lib.hid hS9)); refine mixQ_mk (by (try show Ex _ _); with_reducible repeat (first | exact ex_refl _ | assumption | refine ex_drewL ?_ | refine ex_appR ?_ _ | refine ex_wx ?_ _ | refine ex_drew ?_ | refine ex_alloc ?_ _)) ?_))
                    refine wpSeq_nil ?_
                    go_wp2
                    refine ⟨⟨(x :: r').drop j, outs ++ [data], by rw [Hdr.out]; omega, by rw [List.length_append, List.length_singleton]; omega, Hwl, Lib.hid ?_, Lib.hid (ShO.ex hS9.out (by (try show Ex _ _); with_reducible repeat (first | exact ex_refl _ | assumption | refine ex_drewL ?_ | refine ex_appR ?_ _ | refine ex_wx ?_ _ | refine ex_drew ?_ | refine ex_alloc ?_ _))), by rw [Hdr.out, List.length_append, List.length_singleton]; omega, (by (try show Ex _ _); with_reducible repeat (first | exact ex_refl _ | assumption | refine ex_drewL ?_ | refine ex_appR ?_ _ | refine ex_wx ?_ _ | refine ex_drew ?_ | refine ex_alloc ?_ _)), ⟨_, _, by rw [Hdr.out, hR1]⟩⟩, by show r'.length + 1 - j < R; omega⟩
                    (have q9 : (x :: r').drop j = [] := List.eq_nil_of_length_eq_zero (by rw [Hdr.out]; have := hRj.out; omega); rw [q9]; exact ⟨_, _, by have := hRj.out; rw [this, Nat.sub_self]; rfl, by simp, Nat.zero_le _, (fun e => by cases e), SlR.nil _ _ _ _⟩)
                · have hcj2 : ¬ (cv : Int) = j := by omega
                  by_cases hn0 : n = 0
                  · rw [if_pos hn0] at hbv
                    subst hbv
                    go_wp2_with (first | (go_at_call 38; (with_reducible refine (HSh.out _ (by (try show Ex _ _); with_reducible repeat (first | exact ex_refl _ | assumption | refine ex_drewL ?_ | refine ex_appR ?_ _ | refine ex_wx ?_ _ | refine ex_drew ?_ | refine ex_alloc ?_ _))).mono ?_); rintro e w5 ⟨vs, rfl, hvs, X5, rfl⟩; obtain ⟨sa, sc, rfl, _⟩ := own_form9 hvs; have HVs := Lib.hid (SlV1.of_own KK_len (by omega) (by rw [Hsl.out]; exact hvs)); clear hvs) | (go_at_call 70; (refine (eqBk_any sb xs _ _ _ (HVs.out.ex (by (try show Ex _ _); with_reducible repeat (first | exact ex_refl _ | assumption | refine ex_drewL ?_ | refine ex_appR ?_ _ | refine ex_wx ?_ _ | refine ex_drew ?_ | refine ex_alloc ?_ _))) (HVk.out.ex (by (try show Ex _ _); with_reducible repeat (first | exact ex_refl _ | assumption | refine ex_drewL ?_ | refine ex_appR ?_ _ | refine ex_wx ?_ _ | refine ex_drew ?_ | refine ex_alloc ?_ _))) (by rw [Hsl.out]; omega) (by rw [Hxl.out]; omega)).mono ?_); rintro e w6 ⟨rfl, X6, rfl⟩))
                    refine wp_region_seqA (w) [(0, true), (1, true), (4, true), (5, true), (6, true), (7, true), (2, false), (3, false), (8, true), (9, true)] (by (try show Ex _ _); with_reducible repeat (first | exact ex_refl _ | assumption | refine ex_drewL ?_ | refine ex_appR ?_ _ | refine ex_wx ?_ _ | refine ex_drew ?_ | refine ex_alloc ?_ _)) (by kernel_rfl) (by kernel_rfl) (fun _ _ d _ _ h => by cases d <;> exact h) ?_
                    simp only [List.map_cons, List.map_nil, nth]
                    repeat (first | ((with_reducible refine wpSeq_look ?_); go_big_quiet_step (fail); (with_reducible refine wpQuiet_nil ?_)) | ((with_reducible refine wpSeq_effF ?_ ?_); (focus rfl); go_simp) | ((with_reducible refine wpSeq_eff ?_ ?_); (focus rfl); (try dsimp only); go_wp2_with ((at_builtin; refine wpAppO (Z := w.heap.size) (ls := outs) (b := data) _ _ rfl rfl (hOw.out.ex (by (try show Ex _ _); with_reducible repeat (first | exact ex_refl _ | assumption | refine ex_drewL ?_ | refine ex_appR ?_ _ | refine ex_wx ?_ _ | refine ex_drew ?_ | refine ex_alloc ?_ _))) rfl rfl (by simp [go_sem]) (HTd.out.ky (Ky.ex (by (try show Ex _ _); with_reducible repeat (first | exact ex_refl _ | assumption | refine ex_drewL ?_ | refine ex_appR ?_ _ | refine ex_wx ?_ _ | refine ex_drew ?_ | refine ex_alloc ?_ _)))) (by omega) (by simp [go_sem] <;> omega) (fun v9 w9 hS9 hB9 _ _ => ?_); obtain ⟨X9, rfl⟩ := exOf (A := w) (by (try show Ex _ _); with_reducible repeat (first | exact ex_refl _ | assumption | refine ex_drewL ?_ | refine ex_appR ?_ _ | refine ex_wx ?_ _ | refine ex_drew ?_ | refine ex_alloc ?_ _)) hB9; replace hS9 := Lib.hid hS9)); refine mixQ_mk (by (try show Ex _ _); with_reducible repeat (first | exact ex_refl _ | assumption | refine ex_drewL ?_ | refine ex_appR ?_ _ | refine ex_wx ?_ _ | refine ex_drew ?_ | refine ex_alloc ?_ _)) ?_))
                    refine wpSeq_nil ?_
                    go_wp2
                    refine ⟨⟨(x :: r').drop j, outs ++ [data], by rw [Hdr.out]; omega, by rw [List.length_append, List.length_singleton]; omega, Hwl, Lib.hid ?_, Lib.hid (ShO.ex hS9.out (by (try show Ex _ _); with_reducible repeat (first | exact ex_refl _ | assumption | refine ex_drewL ?_ | refine ex_appR ?_ _ | refine ex_wx ?_ _ | refine ex_drew ?_ | refine ex_alloc ?_ _))), by rw [Hdr.out, List.length_append, List.length_singleton]; omega, (by (try show Ex _ _); with_reducible repeat (first | exact ex_refl _ | assumption | refine ex_drewL ?_ | refine ex_appR ?_ _ | refine ex_wx ?_ _ | refine ex_drew ?_ | refine ex_alloc ?_ _)), ⟨_, _, by rw [Hdr.out, hR1]⟩⟩, by show r'.length + 1 - j < R; omega⟩
                    (have q9 := HVd.out hcj; rw [hR1] at q9; exact q9)
                  · rw [if_neg hn0] at hbv
                    subst hbv
                    go_wp2_with (first | (go_at_call 38; (with_reducible refine (HSh.out _ (by (try show Ex _ _); with_reducible repeat (first | exact ex_refl _ | assumption | refine ex_drewL ?_ | refine ex_appR ?_ _ | refine ex_wx ?_ _ | refine ex_drew ?_ | refine ex_alloc ?_ _))).mono ?_); rintro e w5 ⟨vs, rfl, hvs, X5, rfl⟩; obtain ⟨sa, sc, rfl, _⟩ := own_form9 hvs; have HVs := Lib.hid (SlV1.of_own KK_len (by omega) (by rw [Hsl.out]; exact hvs)); clear hvs) | (go_at_call 70; (refine (eqBk_any sb xs _ _ _ (HVs.out.ex (by (try show Ex _ _); with_reducible repeat (first | exact ex_refl _ | assumption | refine ex_drewL ?_ | refine ex_appR ?_ _ | refine ex_wx ?_ _ | refine ex_drew ?_ | refine ex_alloc ?_ _))) (HVk.out.ex (by (try show Ex _ _); with_reducible repeat (first | exact ex_refl _ | assumption | refine ex_drewL ?_ | refine ex_appR ?_ _ | refine ex_wx ?_ _ | refine ex_drew ?_ | refine ex_alloc ?_ _))) (by rw [Hsl.out]; omega) (by rw [Hxl.out]; omega)).mono ?_); rintro e w6 ⟨rfl, X6, rfl⟩))
                    refine wp_region_seqA (w) [(0, true), (1, true), (4, true), (5, true), (6, true), (7, true), (2, false), (3, false), (8, true), (9, true)] (by (try show Ex _ _); with_reducible repeat (first | exact ex_refl _ | assumption | refine ex_drewL ?_ | refine ex_appR ?_ _ | refine ex_wx ?_ _ | refine ex_drew ?_ | refine ex_alloc ?_ _)) (by kernel_rfl) (by kernel_rfl) (fun _ _ d _ _ h => by cases d <;> exact h) ?_
                    simp only [List.map_cons, List.map_nil, nth]
                    repeat (first | ((with_reducible refine wpSeq_look ?_); go_big_quiet_step (fail); (with_reducible refine wpQuiet_nil ?_)) | ((with_reducible refine wpSeq_effF ?_ ?_); (focus rfl); go_simp) | ((with_reducible refine wpSeq_eff ?_ ?_); (focus rfl); (try dsimp only); go_wp2_with ((at_builtin; refine wpAppO (Z := w.heap.size) (ls := outs) (b := data) _ _ rfl rfl (hOw.out.ex (by (try show Ex _ _); with_reducible repeat (first | exact ex_refl _ | assumption | refine ex_drewL ?_ | refine ex_appR ?_ _ | refine ex_wx ?_ _ | refine ex_drew ?_ | refine ex_alloc ?_ _))) rfl rfl (by simp [go_sem]) (HTd.out.ky (Ky.ex (by (try show Ex _ _); with_reducible repeat (first | exact ex_refl _ | assumption | refine ex_drewL ?_ | refine ex_appR ?_ _ | refine ex_wx ?_ _ | refine ex_drew ?_ | refine ex_alloc ?_ _)))) (by omega) (by simp [go_sem] <;> omega) (fun v9 w9 hS9 hB9 _ _ => ?_); obtain ⟨X9, rfl⟩ := exOf (A := w) (by (try show Ex _ _); with_reducible repeat (first | exact ex_refl _ | assumption | refine ex_drewL ?_ | refine ex_appR ?_ _ | refine ex_wx ?_ _ | refine ex_drew ?_ | refine ex_alloc ?_ _)) hB9; replace hS9 := Lib.hid hS9)); refine mixQ_mk (by (try show Ex _ _); with_reducible repeat (first | exact ex_refl _ | assumption | refine ex_drewL ?_ | refine ex_appR ?_ _ | refine ex_wx ?_ _ | refine ex_drew ?_ | refine ex_alloc ?_ _)) ?_))
                    refine wpSeq_nil ?_
                    go_wp2
                    refine ⟨⟨(x :: r').drop j, outs ++ [data], by rw [Hdr.out]; omega, by rw [List.length_append, List.length_singleton]; omega, Hwl, Lib.hid ?_, Lib.hid (ShO.ex hS9.out (by (try show Ex _ _); with_reducible repeat (first | exact ex_refl _ | assumption | refine ex_drewL ?_ | refine ex_appR ?_ _ | refine ex_wx ?_ _ | refine ex_drew ?_ | refine ex_alloc ?_ _))), by rw [Hdr.out, List.length_append, List.length_singleton]; omega, (by (try show Ex _ _); with_reducible repeat (first | exact ex_refl _ | assumption | refine ex_drewL ?_ | refine ex_appR ?_ _ | refine ex_wx ?_ _ | refine ex_drew ?_ | refine ex_alloc ?_ _)), ⟨_, _, by rw [Hdr.out, hR1]⟩⟩, by show r'.length + 1 - j < R; omega⟩
                    (have q9 := HVd.out hcj; rw [hR1] at q9; exact q9)
              · have t9 : decide (sb = xs) = false := decide_eq_false hsx
                have hno : wholeW l = none := by rw [HW.out, Hwc.out, if_neg hsx]; rfl
                have Hno := Lib.hid hno
                clear hno Hwc HW hsx
                by_cases hn0 : n = 0
                · rw [if_pos hn0] at hbv
                  subst hbv
                  go_wp2_with (first | (go_at_call 38; (with_reducible refine (HSh.out _ (by (try show Ex _ _); with_reducible repeat (first | exact ex_refl _ | assumption | refine ex_drewL ?_ | refine ex_appR ?_ _ | refine ex_wx ?_ _ | refine ex_drew ?_ | refine ex_alloc ?_ _))).mono ?_); rintro e w5 ⟨vs, rfl, hvs, X5, rfl⟩; obtain ⟨sa, sc, rfl, _⟩ := own_form9 hvs; have HVs := Lib.hid (SlV1.of_own KK_len (by omega) (by rw [Hsl.out]; exact hvs)); clear hvs) | (go_at_call 70; (refine (eqBk_any sb xs _ _ _ (HVs.out.ex (by (try show Ex _ _); with_reducible repeat (first | exact ex_refl _ | assumption | refine ex_drewL ?_ | refine ex_appR ?_ _ | refine ex_wx ?_ _ | refine ex_drew ?_ | refine ex_alloc ?_ _))) (HVk.out.ex (by (try show Ex _ _); with_reducible repeat (first | exact ex_refl _ | assumption | refine ex_drewL ?_ | refine ex_appR ?_ _ | refine ex_wx ?_ _ | refine ex_drew ?_ | refine ex_alloc ?_ _))) (by rw [Hsl.out]; omega) (by rw [Hxl.out]; omega)).mono ?_); rintro e w6 ⟨rfl, X6, rfl⟩))
                  go_ret2
                  exact hfz.out _ Hno.out (by (try show Ex _ _); with_reducible repeat (first | exact ex_refl _ | assumption | refine ex_drewL ?_ | refine ex_appR ?_ _ | refine ex_wx ?_ _ | refine ex_drew ?_ | refine ex_alloc ?_ _))
                · rw [if_neg hn0] at hbv
                  subst hbv
                  go_wp2_with (first | (go_at_call 38; (with_reducible refine (HSh.out _ (by (try show Ex _ _); with_reducible repeat (first | exact ex_refl _ | assumption | refine ex_drewL ?_ | refine ex_appR ?_ _ | refine ex_wx ?_ _ | refine ex_drew ?_ | refine ex_alloc ?_ _))).mono ?_); rintro e w5 ⟨vs, rfl, hvs, X5, rfl⟩; obtain ⟨sa, sc, rfl, _⟩ := own_form9 hvs; have HVs := Lib.hid (SlV1.of_own KK_len (by omega) (by rw [Hsl.out]; exact hvs)); clear hvs) | (go_at_call 70; (refine (eqBk_any sb xs _ _ _ (HVs.out.ex (by (try show Ex _ _); with_reducible repeat (first | exact ex_refl _ | assumption | refine ex_drewL ?_ | refine ex_appR ?_ _ | refine ex_wx ?_ _ | refine ex_drew ?_ | refine ex_alloc ?_ _))) (HVk.out.ex (by (try show Ex _ _); with_reducible repeat (first | exact ex_refl _ | assumption | refine ex_drewL ?_ | refine ex_appR ?_ _ | refine ex_wx ?_ _ | refine ex_drew ?_ | refine ex_alloc ?_ _))) (by rw [Hsl.out]; omega) (by rw [Hxl.out]; omega)).mono ?_); rintro e w6 ⟨rfl, X6, rfl⟩))
                  go_ret2
                  exact hfz.out _ Hno.out (by (try show Ex _ _); with_reducible repeat (first | exact ex_refl _ | assumption | refine ex_drewL ?_ | refine ex_appR ?_ _ | refine ex_wx ?_ _ | refine ex_drew ?_ | refine ex_alloc ?_ _))
end Go.Proofs.YtabjamkkhlbajaaDoor

/- The log: sectors that are read. -/
set_option linter.unusedSimpArgs false
set_option linter.unusedVariables false
set_option linter.unnecessarySimpa false
set_option maxRecDepth 20000
namespace Go.Proofs.YtabjamkkhlbajaaDoor
open Go.RowKit
theorem readsN_succ (d : Dk) (a : Int) (n : Nat) : readsN d a (n + 1) = if (readD d a).2.2 = 0 then
      ((readsN (readD d a).1 (a + 1) n).1, (if (readsN (readD d a).1 (a + 1) n).2.2 = 0 then (readD d a).2.1 :: (readsN (readD d a).1 (a + 1) n).2.1 else []), (readsN (readD d a).1 (a + 1) n).2.2)
    else ((readD d a).1, [], (readD d a).2.2) := rfl
theorem readsN_snoc : ∀ (k : Nat) (d : Dk) (a : Int), (readsN d a k).2.2 = 0 → readsN d a (k + 1) = if (readD (readsN d a k).1 (a + k)).2.2 = 0 then
      ((readD (readsN d a k).1 (a + k)).1, (readsN d a k).2.1 ++ [(readD (readsN d a k).1 (a + k)).2.1], 0) else ((readD (readsN d a k).1 (a + k)).1, [], (readD (readsN d a k).1 (a + k)).2.2)
  | 0, d, a, _ => by
    show (if (readD d a).2.2 = 0 then _ else _) = if (readD d (a + (0 : Nat))).2.2 = 0 then _ else _
    rw [show a + ((0 : Nat) : Int) = a by simp]
    rfl
  | k + 1, d, a, h => by
    rw [readsN_succ] at h
    by_cases h0 : (readD d a).2.2 = 0
    · rw [if_pos h0] at h
      have ih := readsN_snoc k (readD d a).1 (a + 1) h
      have e : a + 1 + (k : Int) = a + ((k + 1 : Nat) : Int) := by push_cast; omega
      rw [e] at ih
      have h : (readsN (readD d a).1 (a + 1) k).2.2 = 0 := h
      have e1 : readsN d a (k + 1) = ((readsN (readD d a).1 (a + 1) k).1, (readD d a).2.1 :: (readsN (readD d a).1 (a + 1) k).2.1, 0) := by
        rw [readsN_succ, if_pos h0, h, if_pos rfl]
      rw [readsN_succ d a (k + 1), if_pos h0, ih, e1]
      by_cases h1 : (readD (readsN (readD d a).1 (a + 1) k).1 (a + ((k + 1 : Nat) : Int))).2.2 = 0
      · rw [if_pos h1, if_pos h1, if_pos rfl]; rfl
      · rw [if_neg h1, if_neg h1, if_neg h1]
    · rw [if_neg h0] at h
      exact absurd h h0
theorem readsN_fail : ∀ (k n : Nat) (d : Dk) (a : Int), (readsN d a k).2.2 ≠ 0 → k ≤ n → readsN d a n = readsN d a k
  | 0, n, d, a, h, _ => absurd rfl h
  | k + 1, 0, d, a, h, hn => by omega
  | k + 1, n + 1, d, a, h, hn => by
    rw [readsN_succ] at h
    rw [readsN_succ, readsN_succ]
    by_cases h0 : (readD d a).2.2 = 0
    · rw [if_pos h0] at h
      rw [if_pos h0, if_pos h0, readsN_fail k n _ _ h (by omega)]
    · rw [if_neg h0, if_neg h0]
theorem read_ops (d : Dk) (i : Int) : (readD d i).1.ops ≤ d.ops + 1 ∧ (readD d i).1.has = d.has ∧ (readD d i).1.qu = d.qu := by
  have h := req_same d i false
  unfold readD
  split
  · exact ⟨by show (reqD d i false).1.ops + 1 ≤ _; rw [h.2.2]; omega, h.1, h.2.1⟩
  · exact ⟨by show (reqD d i false).1.ops ≤ _; rw [h.2.2]; omega, h.1, h.2.1⟩
theorem reads_ops : ∀ (n : Nat) (d : Dk) (a : Int), (readsN d a n).1.ops ≤ d.ops + n ∧ (readsN d a n).1.has = d.has ∧ (readsN d a n).1.qu = d.qu
  | 0, d, a => ⟨Nat.le_refl _, rfl, rfl⟩
  | n + 1, d, a => by
    have h1 := read_ops d a
    have h2 := reads_ops n (readD d a).1 (a + 1)
    rw [readsN_succ]
    split
    · exact ⟨by show (readsN (readD d a).1 (a + 1) n).1.ops ≤ _; omega, h2.2.1.trans h1.2.1, h2.2.2.trans h1.2.2⟩
    · exact ⟨by show (readD d a).1.ops ≤ _; omega, h1.2.1, h1.2.2⟩
theorem reads_len : ∀ (n : Nat) (d : Dk) (a : Int), (readsN d a n).2.2 = 0 → (readsN d a n).2.1.length = n
  | 0, d, a, _ => rfl
  | n + 1, d, a, h => by
    rw [readsN_succ] at h ⊢
    by_cases h0 : (readD d a).2.2 = 0
    · rw [if_pos h0] at h ⊢
      have h : (readsN (readD d a).1 (a + 1) n).2.2 = 0 := h
      show (if (readsN (readD d a).1 (a + 1) n).2.2 = 0 then _ else _ : List Bk).length = _
      rw [if_pos h, List.length_cons, reads_len n _ _ h]
    · rw [if_neg h0] at h
      exact absurd h h0
/-- What reading sectors leads to. -/
def PostRs (w : World) (L : Loc) (r : Dk × List Bk × Int) (e : Ending) (w' : World) : Prop :=
  ∃ v L', e = .returned (.tuple #[v, I r.2.2]) ∧ DkAt w' L' r.1 ∧ Dv L w L' w' ∧ w'.ownsRow w.heap.size 75 64 v r.2.1.length (r.2.1.flatMap KK) ∧ ∀ g, v.ownBlock = some g → ¬ L'.own g
theorem row_set {w : World} {b : Nat} {f g : Nat → UInt8} {t : TypeId} (h : w.heap[b]? = some (.cells (rowB 64 f) t (0, 0))) : cellsN (w.setCells b 0 (rowB 64 g).toList) b 0 64 = some (rowB 64 g) := by
  have h8 := setCells_block b t (0, 0) (rowB 64 g).toList 0 w _ h
  rw [spliceA_all _ _ (by simp), Array.toArray_toList] at h8
  exact (block_cellsF (n := 64) h8 (by simp)).1
theorem DkAt.setsO {w : World} {L : Loc} {d : Dk} (h : DkAt w L d) {b : Nat} (hb : ¬ L.own b) (o : Nat) (vs : List Value) : DkAt (w.setCells b o vs) L d := by
  obtain ⟨qv, hM⟩ := h.out
  exact ⟨qv, hM.keep fun x hx => setCells_heap _ _ _ _ _ fun e => hb (by rw [← e]; exact hx)⟩
theorem DkAt.apd {w w' : World} {L : Loc} {d : Dk} {v v' : Value} (h : DkAt w L d) (k : Apd w w' v v') (hv : ∀ g, v.ownBlock = some g → ¬ L.own g) : DkAt w' L d := by
  obtain ⟨qv, hM⟩ := h.out
  exact ⟨qv, hM.keep fun x hx => k.block x (hM.lt hx) fun e => hv x e hx⟩
theorem reads_step {w w4 w5 w6 : World} {L L2 : Loc} {d1 : Dk} {S B k : Nat} {u v1 : Value} {l : List Bk} {bk : Bk} (q1 : DkAt w4 L2 d1) (q2 : Dv L w L2 w4) (q3 : ∀ g, u.ownBlock = some g → ¬ L2.own g ∧ g < w4.heap.size ∧ g ≠ S) (q4 : ¬ L2.own S)
    (hS : w.heap.size ≤ S) (hl : l.length = k) (hown : w6.ownsRow B 75 64 v1 (k + 1) (l.flatMap KK ++ KK bk)) (k5 : Ex (w4.setCells S 0 (rowB 64 (bkF bk)).toList) w5) (hap : Apd w5 w6 u v1) (hB : ∀ g, u.ownBlock = some g → w.heap.size ≤ g) (hz : S ≤ w4.heap.size) :
    DkAt w6 L2 d1 ∧ Dv L w L2 w6 ∧ w6.ownsRow B 75 64 v1 (k + 1) ((l ++ [bk]).flatMap KK) ∧ ∀ g, v1.ownBlock = some g → ¬ L2.own g := by
  have r1 := (q1.setsO q4 0 (rowB 64 (bkF bk)).toList).ex k5
  refine ⟨r1.apd hap fun g hg => (q3 g hg).1, q2.frm (F := fun b => w.heap.size ≤ b) (Frm.apd (((Frm.refl _ _).sets (b := S) hS 0 _).trans (Frm.ex k5)) hap hB) (fun b hb => hb), ?_, fun g hg => ?_⟩
  · rw [List.flatMap_append, List.flatMap_cons, List.flatMap_nil, List.append_nil]; exact hown
  · rcases hap.own with e | ⟨g', e, h9⟩
    · rw [e] at hg; exact (q3 g hg).1
    · rw [e] at hg
      obtain rfl := Option.some.inj hg
      intro e2
      have := r1.lt e2
      omega
set_option maxHeartbeats 400000 in
theorem reads_any {w : World} {L : Loc} {d : Dk} (h : DkAt w L d) (at_ n : Nat) (hat : at_ ≤ 1000000) (hn : n ≤ 1000) (hops : d.ops + n < 1000000000) :
    Calls Tryd.prog 40 #[PT L.p, I at_, I n] w (PostRs w L (readsN d at_ n)) := by
  have HD0 := Lib.hid h
  clear h
  go_enter Tryd.func40, Tryd.ntmps40
  go_wp2
  go_loopw [6, 7, 11] (fun v e i W => ∃ (k : Nat) (L' : Loc), k ≤ n ∧ i = I k ∧ e = I 0 ∧ Hid ((readsN d at_ k).2.2 = 0 ∧ DkAt W L' (readsN d at_ k).1 ∧ Dv L w L' W ∧ W.ownsRow w.heap.size 75 64 v k ((readsN d at_ k).2.1.flatMap KK) ∧ ∀ g, v.ownBlock = some g → ¬ L'.own g)) (fun _ _ i _ => n - (intOf i).toNat)
  case atStart => exact ⟨0, L, by omega, rfl, rfl, Lib.hid ⟨rfl, HD0.out, Dv.refl _ _, World.ownsRow_nil _ _ _ _, fun g hg => by cases hg⟩⟩
  case round =>
    obtain ⟨k, L', hk, rfl, rfl, HI⟩ := hrel
    obtain ⟨h0, hD, hV, hO, hG⟩ := HI.out
    by_cases hlt : k < n
    · have hkn : (k : Int) < n := by omega
      have hops2 := (reads_ops k d at_).1
      have hsn := readsN_snoc k d at_ h0
      obtain ⟨dk, hdk⟩ : ∃ dk, (readsN d at_ k).1 = dk := ⟨_, rfl⟩
      rw [hdk] at hD hops2 hsn
      obtain ⟨r, hr⟩ : ∃ r, readD dk ((at_ : Int) + k) = r := ⟨_, rfl⟩
      have k1 : Ex wr (wr.alloc (.cells (rowB 64 fun _ => 0) 75)) := (by (try show Ex _ _); with_reducible repeat (first | exact ex_refl _ | assumption | refine ex_drewL ?_ | refine ex_appR ?_ _ | refine ex_wx ?_ _ | refine ex_drew ?_ | refine ex_alloc ?_ _))
      have b1 : (wr.alloc (.cells (rowB 64 fun _ => 0) 75)).heap[wr.heap.size]? = some (.cells (rowB 64 fun _ => 0) 75 (0, 0)) := heap_alloc_new _ _
      have hRd := read_any (hD.ex k1) ((at_ : Int) + k) (by omega) (by omega) (by omega)
      rw [hr, hV.pp] at hRd
      rw [hr] at hsn
      obtain ⟨l9, hl9⟩ : ∃ l9, (readsN d at_ k).2.1 = l9 := ⟨_, rfl⟩
      rw [hl9] at hO hsn
      have hRd2 : Hid (Calls Tryd.prog 66 #[PT L.p, I ((at_ : Int) + k)] (wr.alloc (.cells (rowB 64 fun _ => 0) 75)) fun e w' => ∃ L2, e = .returned (.tuple #[.agg (rowB 64 (bkF r.2.1)), I r.2.2]) ∧ Hid (DkAt w' L2 r.1 ∧ Dv L w L2 w' ∧ w'.heap[wr.heap.size]? = some (.cells (rowB 64 fun _ => 0) 75 (0, 0)) ∧ w'.ownsRow w.heap.size 75 64 u6 k (l9.flatMap KK) ∧ (∀ g, u6.ownBlock = some g → ¬ L2.own g ∧ g < w'.heap.size ∧ g ≠ wr.heap.size) ∧ ¬ L2.own wr.heap.size)) := Lib.hid (hRd.mono fun e w' hh => by
        obtain ⟨L2, rfl, q1, q2⟩ := hh
        have ns : ¬ L'.own wr.heap.size := fun e => by have := hD.lt e; omega
        have zs := (Array.getElem?_eq_some_iff.1 b1).1
        have hO1 := owns_ex hO k1
        have hlt9 : ∀ g, u6.ownBlock = some g → g < wr.heap.size := fun g hg => (World.ownsRow.lt hO g hg).2
        refine ⟨L2, rfl, Lib.hid ⟨q1, (hV.grow k1).trans q2, (q2.same _ zs ns).trans b1, owns_same hO1 fun g hg => q2.same g (by have := hlt9 g hg; omega) (hG g hg), fun g hg => ?_, q2.notown zs ns⟩⟩
        have h9 := hlt9 g hg
        exact ⟨q2.notown (by omega) (hG g hg), Nat.lt_of_lt_of_le (by omega) q2.size, by omega⟩)
      have Hsn := Lib.hid hsn
      have HO0 := Lib.hid hO
      have hsw := hV.size
      have Hl9 : Hid (l9.length = k) := Lib.hid (by rw [← hl9, reads_len k d at_ h0])
      obtain ⟨d1, bk, er⟩ := r
      dsimp only at hRd2
      clear hRd hsn hr hD hV hO hG HI b1 h0 hdk hops2 hl9 k1
      have hnS : Hid (∀ g, u6.ownBlock = some g → g ≠ wr.heap.size) := Lib.hid fun g hg => by
        have := World.ownsRow.lt HO0.out g hg
        omega
      by_cases he : er = 0
      · subst he
        go_wp2_with (first | (go_at_call 66; (with_reducible refine hRd2.out.mono ?_); rintro e w4 ⟨L2, rfl, hq⟩; have hb4 := hq.out.2.2.1; obtain ⟨n4, f4, z4⟩ := block_cellsF (n := 64) hb4 (by simp); have n5 := row_set (g := bkF bk) hb4; clear hb4) | (at_builtin; refine wpApd appBlk _ _ rfl rfl (owns_ex (owns_same hq.out.2.2.2.1 fun g hg => setCells_heap _ _ _ _ _ (hnS.out g hg)) (by (try show Ex _ _); with_reducible repeat (first | exact ex_refl _ | assumption | refine ex_drewL ?_ | refine ex_appR ?_ _ | refine ex_wx ?_ _ | refine ex_drew ?_ | refine ex_alloc ?_ _))) rfl ⟨_, 0, none⟩ 1 1 (KK bk) rfl (by rw [KK_len]) (news_alloc (w := w4.setCells wr.heap.size 0 (rowB 64 (bkF bk)).toList) (cs := rowB 64 (bkF bk)) (e := 75) (by simp [go_sem]) (by (try show Ex _ _); with_reducible repeat (first | exact ex_refl _ | assumption | refine ex_drewL ?_ | refine ex_appR ?_ _ | refine ex_wx ?_ _ | refine ex_drew ?_ | refine ex_alloc ?_ _))) (fun u hu => KK_one [bk] u (by simpa using hu)) (by unfold maxLen; omega) (by omega) (by simp [go_sem] <;> omega) (fun v1 w6 hown1 hap => ?_)))
        have hS := reads_step hq.out.1 hq.out.2.1 hq.out.2.2.2.2.1 hq.out.2.2.2.2.2 hsw Hl9.out hown1 (show Ex (w4.setCells wr.heap.size 0 (rowB 64 (bkF bk)).toList) _ from (by (try show Ex _ _); with_reducible repeat (first | exact ex_refl _ | assumption | refine ex_drewL ?_ | refine ex_appR ?_ _ | refine ex_wx ?_ _ | refine ex_drew ?_ | refine ex_alloc ?_ _))) hap (fun g hg => (World.ownsRow.lt HO0.out g hg).1) (Nat.le_of_lt z4)
        have e := Hsn.out
        simp only [if_true] at e
        exact ⟨⟨k + 1, L2, by omega, by go_num, rfl, Lib.hid (by rw [e]; exact ⟨rfl, hS⟩)⟩, by simp [intOf]; omega⟩
      · have he2 : (er == 0) = false := beq_eq_false_iff_ne.2 he
        have he3 : (er != 0) = true := by simp [he]
        go_wp2_with (go_at_call 66; (with_reducible refine hRd2.out.mono ?_); rintro e w4 ⟨L2, rfl, hq⟩; have hb4 := hq.out.2.2.1; obtain ⟨n4, f4, z4⟩ := block_cellsF (n := 64) hb4 (by simp); clear hb4)
        go_ret2
        have e := Hsn.out
        simp only [if_neg he] at e
        have hf := readsN_fail (k + 1) n d at_ (by rw [e]; exact he) (by omega)
        rw [hf, e]
        exact ⟨.slice none 0 0, L2, rfl, hq.out.1.setsO hq.out.2.2.2.2.2 0 _, (hq.out.2.1.frm (F := fun b => w.heap.size ≤ b) ((Frm.refl _ _).sets (b := wr.heap.size) (by omega) 0 _) fun b hb => hb), World.ownsRow_nil _ _ _ _, fun g hg => by cases hg⟩
    · obtain rfl : k = n := by omega
      have hfin : Hid (PostRs w L (readsN d at_ k) (.returned (.tuple #[u6, I 0])) wr) := Lib.hid ⟨u6, L', by rw [h0], hD, hV, by rw [reads_len k d at_ h0]; exact hO, hG⟩
      clear h0 hD hV hO hG HI hlt
      go_wp2
      go_ret2
      exact hfin.out
end Go.Proofs.YtabjamkkhlbajaaDoor

/- The log: its transactions, gone over. -/
set_option linter.unusedSimpArgs false
set_option linter.unusedVariables false
set_option linter.unnecessarySimpa false
set_option maxRecDepth 20000
namespace Go.Proofs.YtabjamkkhlbajaaDoor
open Go.RowKit
attribute [local go_sem] Oper.semAt_some
/-- What All makes: a closure over its transactions. -/
def PostAl (w0 w : World) (ls : List By) (e : Ending) (w' : World) : Prop := ∃ bx sv, e = .returned (.func (.func 71) #[] #[PT bx]) ∧ (∃ X, w' = wx w X) ∧ w.heap.size ≤ bx ∧ w'.heap[bx]? = some (.cells #[sv] 30 (0, 0)) ∧ SlSh w0 sv ls
theorem alln_any (w0 w : World) : Calls Tryd.prog 44 #[.pointer none] w (PostAl w0 w []) := by
  go_enter Tryd.func44, Tryd.ntmps44
  go_wp2
  go_ret
  exact ⟨_, .slice none 0 0, rfl, (by (try show Ex _ _); with_reducible repeat (first | exact ex_refl _ | assumption | refine ex_drewL ?_ | refine ex_appR ?_ _ | refine ex_wx ?_ _ | refine ex_drew ?_ | refine ex_alloc ?_ _)), Nat.le_refl _, ex_block (w := w.alloc (.cells #[.slice none 0 0] 30)) (by (try show Ex _ _); with_reducible repeat (first | exact ex_refl _ | assumption | refine ex_drewL ?_ | refine ex_appR ?_ _ | refine ex_wx ?_ _ | refine ex_drew ?_ | refine ex_alloc ?_ _)) (heap_alloc_new _ _), ⟨none, 0, rfl, by simp, by decide, fun _ => rfl, Or.inl rfl⟩⟩
end Go.Proofs.YtabjamkkhlbajaaDoor

/- The log: what All's closure hands over. -/
set_option linter.unusedSimpArgs false
set_option linter.unusedVariables false
set_option linter.unnecessarySimpa false
set_option maxRecDepth 20000
namespace Go.Proofs.YtabjamkkhlbajaaDoor
open Go.RowKit
attribute [local go_sem] Oper.semAt_some
def encA (x : Nat × Value) : Array Value := #[I (1 + (x.1 : Int)), x.2]
def KpA (Z bd : Nat) (W W' : World) : Prop := KpQ Z bd W W' ∧ K8 W W'
def XA (ls : List By) (pre : List (Nat × Value)) (x : Nat × Value) (W : World) : Prop := x.1 = pre.length ∧ TyB W x.2 (ls.getD pre.length [])
def SA (ls : List By) (xs : List (Nat × Value)) (W : World) : Prop := xs.length = ls.length ∧ ∀ (j : Nat) (l : By), ls[j]? = some l → ∃ x, xs[j]? = some x ∧ TyB W x.2 l
theorem Bkp.ofEx' {B : Nat} {W W' : World} (h : Bkp B W W') (hB : W.heap.size ≤ B) : Ex W W' := ex_of_below ⟨h.os, h.tape, h.output, h.size, fun b hb => by
  have e := Array.getElem?_eq_getElem hb
  rw [h.same b _ e (Or.inr (by omega)), e]⟩
theorem Bkp.k8 {B : Nat} {W W' : World} (h : Bkp B W W') : K8 W W' := fun g cs fr hg => h.same g _ hg (Or.inl rfl)
set_option maxRecDepth 100000 in
set_option maxHeartbeats 1000000 in
theorem all1_hands (bx : Nat) (wz w : World) (sv : Value) (ls : List By) (hS : SlSh wz sv ls) (kz : Ex wz w) (hbx : w.heap[bx]? = some (.cells #[sv] 30 (0, 0))) (hls : ∀ b ∈ ls, b.length ≤ 50000) (hn : ls.length ≤ 1000) :
    Hands 2 Tryd.prog 71 #[PT bx] encA (KpA wz.heap.size bx) (XA ls) (SA ls) ls.length w.heap.size w := fun l J W hW hJ hY h0 => by
  have hb := hW.same bx _ hbx (Or.inl rfl)
  have k0 := ex_trans kz (hW.ofEx' (Nat.le_refl _))
  obtain ⟨a, c, rfl, s1, s2, s3, _⟩ := hS.out
  obtain ⟨n, hnn⟩ : ∃ n, ls.length = n := ⟨_, rfl⟩
  have Hn := Lib.hid hnn
  have HS := Lib.hid hS
  have Hls := Lib.hid hls
  rw [hnn] at hn s1 hb hY
  clear hbx hW hS kz hls
  unfold maxLen at s2
  refine callsIn_of_wp Tryd.func71 rfl trivial ?_ rfl
  simp only [Tryd.ntmps71, List.size_toArray, List.length_cons, List.length_nil, Nat.reduceAdd, Nat.reduceSub, Array.replicate_succ, Array.replicate_zero, List.push_toArray, List.append_toArray, List.nil_append, List.cons_append]
  have hb0 := (block_cellF (o := 0) (v := .slice a n c) hb rfl).1
  have hbz := (Array.getElem?_eq_some_iff.1 hb).1
  have Hb := Lib.hid hb
  clear hb hnn
  gi_wp2
  clear hb0 hbz
  gi_loopw [7] (fun i wr => ∃ (pre : List (Nat × Value)) (k : Nat), pre.length = k ∧ k ≤ n ∧ i = I k ∧ J pre wr ∧ Hid (Ex wz wr ∧ wr.heap[bx]? = some (.cells #[.slice a n c] 30 (0, 0)) ∧ ∀ (j : Nat) (l : By), j < k → ls[j]? = some l → ∃ x, pre[j]? = some x ∧ TyB wr x.2 l)) (fun i _ => n - (intOf i).toNat)
  case atStart => exact ⟨[], 0, rfl, by omega, rfl, h0, Lib.hid ⟨k0, Hb.out, fun j l hj => by omega⟩⟩
  case round =>
    obtain ⟨pre, k, hpk, hk, rfl, hJs, HI⟩ := hrel
    by_cases hlt : k < n
    · have hkl : k < ls.length := by rw [Hn.out]; exact hlt
      have hS' := HS.out.ky (Ky.ex HI.out.1)
      obtain ⟨g, off, rfl, hg, u, hu, hT⟩ := hS'.at hkl
      obtain ⟨b, hbb⟩ : ∃ b, ls.getD k [] = b := ⟨_, rfl⟩
      rw [hbb] at hT
      have hbl : b.length ≤ 50000 := by
        rw [← hbb, List.getD_eq_getElem?_getD, List.getElem?_eq_getElem hkl]
        exact Hls.out _ (List.getElem_mem hkl)
      obtain ⟨ua, uc, rfl, _⟩ := hT.out
      have HC := Lib.hid (cloneW_any hT.slt hbl)
      have hYk := Lib.hid (hY pre)
      have hkn : (k : Int) < n := by omega
      have Hbb := Lib.hid hbb
      have Hpk := Lib.hid hpk
      have HJ := Lib.hid hJ
      have hJs := Lib.hid hJs
      clear hS' hT hbb hY hJ hpk h0
      gi_wp2_with (refine ⟨trivial, ?_⟩; gi_at_call 46; refine (callsIn_wide.2 HC.out).mono ?_; rintro e w3 ⟨u3, rfl, hT3, X, rfl⟩; have hyp := hYk.out (k, u3) (wx wr X) (HJ.out _ _ _ hJs.out ⟨X, rfl⟩) ⟨Hpk.out.symm, by rw [Hpk.out, Hbb.out]; exact hT3⟩ (by rw [Hpk.out]; exact hlt); obtain ⟨fn, tmps, assign, body, hy, hR⟩ := hyp; dsimp only [encA] at hy; replace hT3 := Lib.hid hT3; clear HC)
      refine hR.mono ?_
      rintro e W3 ⟨rfl, hJ3, hk3⟩
      gi_wp2
      go_roundw
      case rel =>
        refine ⟨pre ++ [(k, u3)], k + 1, by rw [List.length_append, Hpk.out]; rfl, by omega, (by simp; try omega), hJ3, Lib.hid ⟨?_, ?_, ?_⟩⟩
        · have x1 := ex_trans HI.out.1 (show Ex wr (wx wr X) from ⟨X, rfl⟩)
          have x2 := ex_below x1
          exact ex_of_below ⟨hk3.1.os.trans x2.os, hk3.1.tape.trans x2.tape, hk3.1.output.trans x2.output, Nat.le_trans x2.size hk3.1.size, fun b hb => (hk3.1.same b (Nat.lt_of_lt_of_le hb x2.size) (fun h => by omega)).trans (x2.block b hb)⟩
        · have b1 := ex_block (show Ex wr (wx wr X) from ⟨X, rfl⟩) HI.out.2.1
          exact (hk3.1.same bx (Array.getElem?_eq_some_iff.1 b1).1 (fun h => h.2 rfl)).trans b1
        · intro j l hj hl
          by_cases hjk : j < k
          · obtain ⟨x, q1, q2⟩ := HI.out.2.2 j l hjk hl
            exact ⟨x, by rw [List.getElem?_append_left (by rw [Hpk.out]; exact hjk)]; exact q1, (q2.ky (Ky.ex ⟨X, rfl⟩)).k8 hk3.2⟩
          · obtain rfl : j = k := by omega
            refine ⟨(j, u3), by rw [List.getElem?_append_right (by rw [Hpk.out]; exact Nat.le_refl _), Hpk.out, Nat.sub_self]; rfl, ?_⟩
            have : l = b := by
              rw [← Hbb.out, List.getD_eq_getElem?_getD, hl]; rfl
            rw [this]
            exact hT3.out.k8 hk3.2
      case measure => (simp [intOf]; try omega)
    · obtain rfl : k = n := by omega
      have hfin : Hid (∃ xs, SA ls xs wr ∧ J xs wr) := Lib.hid ⟨pre, ⟨by rw [hpk, Hn.out], fun j l hl => HI.out.2.2 j l (by have := (List.getElem?_eq_some_iff.1 hl).1; rw [Hn.out] at this; exact this) hl⟩, hJs⟩
      clear hJs hJ hY h0
      gi_wp2
      go_end0
      exact ⟨⟨_, rfl⟩, hfin.out⟩
end Go.Proofs.YtabjamkkhlbajaaDoor

/- The log: a log's transactions, as the laws collect them. -/
set_option linter.unusedSimpArgs false
set_option linter.unusedVariables false
set_option linter.unnecessarySimpa false
set_option maxRecDepth 20000
namespace Go.Proofs.YtabjamkkhlbajaaDoor
open Go.RowKit
attribute [local go_sem] Oper.semAt_some
theorem Frm.bkp {F : Nat → Prop} {w W W' : World} (h : Frm F w W) (k : Bkp w.heap.size W W') : Frm F w W' := ⟨k.os.trans h.os, k.tape.trans h.tape, k.output.trans h.output, Nat.le_trans h.size k.size, fun b hb hf => by
  have hz := Nat.lt_of_lt_of_le hb h.size
  have e := Array.getElem?_eq_getElem hz
  rw [k.same b _ e (Or.inr hb), ← e]
  exact h.same b hb hf⟩
theorem owns_bkp {B : Nat} {W W' : World} {Z : Nat} {t : TypeId} {s : Nat} {v : Value} {n : Nat} {xs : List Value} (h : W.ownsRow Z t s v n xs) (k : Bkp B W W') : W'.ownsRow Z t s v n xs := by
  refine ⟨h.1, ?_⟩
  rcases h.2 with h0 | ⟨g, cap, cur, rfl, h1, h2, h3⟩
  · exact Or.inl h0
  · exact Or.inr ⟨g, cap, cur, rfl, h1, k.same g _ h2 (Or.inl rfl), h3⟩
theorem KpA.bkp {Z bx B : Nat} {A D : World} (hZ : Z ≤ B) (hb : bx < B) (k : Bkp B A D) : KpA Z bx A D := ⟨⟨k.os, k.tape, k.output, k.size, fun b h1 h2 => by
  have e := Array.getElem?_eq_getElem h1
  rw [k.same b _ e (Or.inr (by
    by_cases h3 : Z ≤ b
    · have : b = bx := Classical.byContradiction fun h4 => h2 ⟨h3, h4⟩
      omega
    · omega)), e]⟩, k.k8⟩
theorem results_cells2 {P : Program} {fn : Func} {p q : Tmp} {ty tz : TypeId} (h : fn.results = #[.cell p ty, .cell q tz]) (tmps : Array Value) (w : World) {a b : Addr} {u v : Value}
    (hp : tmps.getD p undef = .pointer (some a)) (hq : tmps.getD q undef = .pointer (some b)) (hu : w.cell? a = some u) (hv : w.cell? b = some v) {d e : TypeDesc}
    (h1 : P.underlying ty = some d) (h2 : (match d with | .struct _ | .array _ _ => true | _ => false) = false) (h3 : P.underlying tz = some e) (h4 : (match e with | .struct _ | .array _ _ => true | _ => false) = false) :
    (results fn tmps).run P w = .ok (.tuple #[u, v]) w := by
  have hp' : tmps[p]?.getD undef = .pointer (some a) := by simpa using hp
  have hq' : tmps[q]?.getD undef = .pointer (some b) := by simpa using hq
  simp [results, h, hp', hq', asAddr, loadVar, Sem.run_bind, Result.andThen, run_isAgg_plain h1 h2, run_isAgg_plain h3 h4, hu, hv]
/-- The collected, and how. -/
def PostRt (w : World) (ls : List By) (e : Ending) (w' : World) : Prop := ∃ u, e = .returned (.tuple #[u, .bool true]) ∧ ShO w' w.heap.size u ls ∧ ∃ X, w' = wx w X
set_option maxRecDepth 100000 in
set_option maxHeartbeats 1000000 in
theorem rest_of {w : World} (a : Option Addr) (ls : List By) (hA : ∀ w', Ex w w' → Calls Tryd.prog 44 #[.pointer a] w' (PostAl w w' ls)) (hls : ∀ b ∈ ls, b.length ≤ 50000) (hn : ls.length ≤ 1000) :
    Calls Tryd.prog 12 #[.pointer a] w (PostRt w ls) := by
  obtain ⟨i0, hi, hz0, hz1, hz2⟩ := info_parts appSh.hi
  have HA := Lib.hid hA
  have Hls := Lib.hid hls
  clear hA hls
  refine calls_of_marks Tryd.func12 rfl ?_
  simp only [Tryd.ntmps12, List.size_toArray, List.length_cons, List.length_nil, Nat.reduceAdd, Nat.reduceSub, Array.replicate_succ, Array.replicate_zero, List.push_toArray, List.append_toArray, List.nil_append, List.cons_append]
  go_wp2_with (go_at_call 44; (with_reducible refine (HA.out _ (by (try show Ex _ _); with_reducible repeat (first | exact ex_refl _ | assumption | refine ex_drewL ?_ | refine ex_appR ?_ _ | refine ex_wx ?_ _ | refine ex_drew ?_ | refine ex_alloc ?_ _))).mono ?_); rintro e w3 ⟨bx, sv, rfl, ⟨X3, rfl⟩, hzx, hbx, hS⟩)
  refine wp_worldW fun w3 hw3 => ?_
  have k3 : Ex w w3 := by rw [← hw3]; exact (by (try show Ex _ _); with_reducible repeat (first | exact ex_refl _ | assumption | refine ex_drewL ?_ | refine ex_appR ?_ _ | refine ex_wx ?_ _ | refine ex_drew ?_ | refine ex_alloc ?_ _))
  have h2 : Boxed w3 w.heap.size 30 (.slice none 0 0) := by
    show w3.heap[_]? = _
    rw [← hw3]; exact ex_block (w := w.alloc (.cells #[.slice none 0 0] 30)) (by (try show Ex _ _); with_reducible repeat (first | exact ex_refl _ | assumption | refine ex_drewL ?_ | refine ex_appR ?_ _ | refine ex_wx ?_ _ | refine ex_drew ?_ | refine ex_alloc ?_ _)) (heap_alloc_new _ _)
  have h3 : Boxed w3 (w.heap.size + 1) 4 (.bool false) := by
    show w3.heap[_]? = _
    rw [← hw3]
    refine ex_block (w := (w.alloc (.cells #[.slice none 0 0] 30)).alloc (.cells #[.bool false] 4)) (by (try show Ex _ _); with_reducible repeat (first | exact ex_refl _ | assumption | refine ex_drewL ?_ | refine ex_appR ?_ _ | refine ex_wx ?_ _ | refine ex_drew ?_ | refine ex_alloc ?_ _)) ?_
    have := heap_alloc_new (w.alloc (.cells #[.slice none 0 0] 30)) (.cells #[.bool false] 4)
    simpa only [World.size_alloc] using this
  rw [hw3] at hbx
  simp only [World.size_alloc] at hzx
  obtain ⟨b2, hb2⟩ : ∃ b2, w.heap.size = b2 := ⟨_, rfl⟩
  obtain ⟨b3, hb3⟩ : ∃ b3, w.heap.size + 1 = b3 := ⟨_, rfl⟩
  rw [hb3] at h3 ⊢
  rw [hb2] at h2 ⊢
  have e23 : Hid (w.heap.size = b2 ∧ b3 = b2 + 1 ∧ b2 + 2 ≤ bx) := Lib.hid (by omega)
  have z2 := h2.lt
  have z3 := h3.lt
  have zx := (Array.getElem?_eq_some_iff.1 hbx).1
  have n23 : b2 ≠ b3 := by omega
  have n2x : b2 ≠ bx := by omega
  have HX := Lib.hid k3
  clear hw3 hb2 hb3
  refine (wpIn_wide (n := 3)).1 ?_
  refine range_gives (n := 3) (by omega) rfl (enters_of Tryd.func71 (by kernel_rfl) rfl) (all1_hands bx _ w3 sv ls hS k3 hbx Hls.out hn)
    (fun A B C h k => ⟨Frm.trans h.1 k.1, h.2.trans k.2⟩) (fun A D k => KpA.bkp (ex_size k3) zx k) (fun pre x A D k h => ⟨h.1, h.2.k8 k.k8⟩) (fun xs A D k h => ⟨h.1, fun j l hl => by obtain ⟨x, q1, q2⟩ := h.2 j l hl; exact ⟨x, q1, q2.k8 k.k8⟩⟩) (fun x => rfl)
    (fun pre W' => (∃ v, Boxed W' b2 30 v ∧ W'.ownsRow w3.heap.size 22 1 v pre.length (pre.map (·.2))) ∧ Boxed W' b3 4 (.bool false) ∧ Frm (fun b => b = b2) w3 W')
    (fun xs A D k h => by
      obtain ⟨⟨v, h1, h2⟩, h3, h4⟩ := h
      exact ⟨⟨v, k.same _ _ h1 (Or.inl rfl), owns_bkp h2 k⟩, k.same _ _ h3 (Or.inl rfl), h4.bkp k⟩)
    ⟨⟨_, h2, World.ownsRow_nil _ _ _ _⟩, h3, Frm.refl _ _⟩
    (fun x => { tmps := #[.pointer a, undef, PT b2, PT b3, I (1 + (x.1 : Int)), x.2, .pointer a, .func (.func 71) #[] #[PT bx], I (1 + (x.1 : Int)), x.2, undef, undef, undef, undef, undef, undef, undef, undef, undef], defers := [] })
    ?assign ?body ?done
  case assign =>
    intro l x W' K hK
    dsimp only [encA]
    gi_wp2
    exact hK
  case body =>
    rintro l pre ⟨k, u⟩ W' ⟨⟨v, hv, hrow⟩, hok, hF⟩ ⟨hk, hT⟩ hlt
    have hk : k = pre.length := hk
    subst hk
    obtain ⟨bl, hbl⟩ : ∃ bl, ls.getD pre.length [] = bl := ⟨_, rfl⟩
    replace hT : TyB W' u bl := by rw [← hbl]; exact hT
    obtain ⟨ua, uc, rfl, _⟩ := hT.out
    obtain ⟨kl, hkl⟩ : ∃ kl, pre.length = kl := ⟨_, rfl⟩
    rw [hkl] at hrow hlt
    have Hkl := Lib.hid hkl
    have hvc := hv.cell
    have hvz := hv.lt
    have hFs := hF.size
    have hpl : kl < 1000 := by omega
    have u1 : (1 + (kl : Int) != (kl : Int) + 1) = false := by simp; omega
    have u2 : (1 + (kl : Int) == (kl : Int) + 1) = true := by simp; omega
    dsimp only
    rw [hkl]
    clear hkl hbl
    gi_wp2_with (gi_at_builtin; refine wpListIn_append_own _ rfl _ _ 30 rfl w3.heap.size 22 i0 (.slice none 0 0) 1 24 Tryd.underlying30 hi hz0 hz1 hz2 rfl (by decide) _ _ _ rfl (hrow.alloc _) ⟨W'.heap.size, 0, none⟩ 1 1 [.slice ua bl.length uc] rfl rfl (cell_one_new _ _ _) (by simp [Value.oneCell']) (by unfold maxLen; omega) (by omega) (by simp; omega) ?_; intro v' w1 hown' hgrow _; obtain ⟨g', cap', rfl⟩ := ownsRow_succ hown'; have hne : v.ownBlock ≠ some b2 := (fun e => by have := (World.ownsRow.lt hrow b2 e).1; omega); have hv1 : Boxed w1 b2 30 v := (hv.alloc _).kept hgrow (fun e => hne e.symm); have hc1 := hv1.cell; have hf1 := hv1.frozen; have z1 := hv1.lt)
    have ho : ∀ b, v.ownBlock = some b → w3.heap.size ≤ b := fun b e => (World.ownsRow.lt hrow b e).1
    have F1 : Frm (fun b => v.ownBlock = some b) W' w1 := (Frm.ex (ex_alloc (ex_refl W') (.cells #[.slice ua bl.length uc] 22))).trans ⟨hgrow.os, hgrow.tape, hgrow.output, hgrow.size, fun b hb hn => hgrow.block b hb (fun e => hn e.symm)⟩
    have F2 : Frm (fun b => b = b2) w3 w1 := ⟨F1.os.trans hF.os, F1.tape.trans hF.tape, F1.output.trans hF.output, Nat.le_trans hF.size F1.size, fun b hb hn => (F1.same b (by omega) fun e => by have := ho b e; omega).trans (hF.same b hb hn)⟩
    have hg' : w3.heap.size ≤ g' := (World.ownsRow.lt hown' g' rfl).1
    have K1 : K8 W' w1 := fun g cs fr hg => (F1.same g (Array.getElem?_eq_some_iff.1 hg).1 fun e => by
      rcases hrow.2 with ⟨rfl, _⟩ | ⟨g2, cap2, cur2, rfl, _, h9, _⟩
      · cases e
      · obtain rfl : g2 = g := Option.some.inj e
        rw [h9] at hg
        injection hg with hg
        injection hg with _ ht _
        exact absurd ht (by decide)).trans hg
    have K2 : K8 w1 (w1.setCell ⟨b2, 0, none⟩ (.slice (some ⟨g', 0, none⟩) (kl + 1) cap')) := fun g cs fr hg => (setCell_heap _ fun e => by
      subst e
      have h9 : w1.heap[g]? = some (.cells #[v] 30 (0, 0)) := hv1
      rw [h9] at hg
      injection hg with hg
      injection hg with _ ht _
      exact absurd ht (by decide)).trans hg
    have e9 := e23.out
    refine ⟨(((KeepsOthers.alloc W' (.cells #[.slice ua bl.length uc] 22)).trans (KeepsOthers.of_grownBy hgrow fun j o ej hj => owns_cells (hrow.alloc _) ej hj)).trans (KeepsOthers.setCell _ _ _)).from _, ⟨?_, K1.trans K2⟩, ⟨_, hv1.set _, ?_⟩, ?_, F2.set rfl 0 _⟩
    · refine (F1.mono (G := fun b => w.heap.size ≤ b ∧ b ≠ bx) fun b e => ⟨by have := ho b e; omega, by have := ho b e; omega⟩).set (b := b2) ⟨by omega, by omega⟩ 0 _
    · rw [List.length_append, Hkl.out, List.map_append]
      exact owns_same hown' fun k hk => by
        obtain rfl : g' = k := Option.some.inj hk
        exact setCell_heap _ (by omega)
    · show (w1.setCell _ _).heap[b3]? = _
      refine (setCell_heap _ (Ne.symm n23)).trans ((F1.same b3 hok.lt fun e => ?_).trans hok)
      have := ho b3 e
      omega
  case done =>
    rintro D ys W' hD hSx ⟨⟨v, hv, hrow⟩, hok, hF⟩ hK
    have hFs := hF.size
    have ho : ∀ b, v.ownBlock = some b → w3.heap.size ≤ b := fun b e => (World.ownsRow.lt hrow b e).1
    have hK9 := hK
    have hne2 : D ≠ b2 := fun e => by subst e; have h9 : W'.heap[D]? = some (.cells #[v] 30 (0, 0)) := hv; rw [h9] at hK; cases hK
    have hne3 : D ≠ b3 := fun e => by subst e; have h9 : W'.heap[D]? = some (.cells #[.bool false] 4 (0, 0)) := hok; rw [h9] at hK; cases hK
    obtain ⟨va, vc, rfl, _⟩ := own_form hrow
    have hvc := hv.cell
    have hvf := hv.frozen
    have hvz := hv.lt
    have hoc := hok.cell
    have hof := hok.frozen
    have hoz := hok.lt
    obtain ⟨kl, hkl⟩ : ∃ kl, ys.length = kl := ⟨_, rfl⟩
    have Hkl := Lib.hid hkl
    have Hrow := Lib.hid hrow
    have HK := Lib.hid hK
    have HF := Lib.hid hF
    have Hv := Lib.hid hv
    have Hok := Lib.hid hok
    have HS := Lib.hid hSx
    rw [hkl] at hvc
    clear hrow hK hF hv hok hSx hkl
    go_wp2
    have e9 := e23.out
    have n23' : b3 ≠ b2 := fun e => n23 e.symm
    have hKV : ((W'.setCell ⟨b2, 0, none⟩ (.slice va kl vc)).setCell ⟨b3, 0, none⟩ (.bool true)).heap[D]? = some (.deferred (some [])) := (setCell_heap _ hne3).trans ((setCell_heap _ hne2).trans HK.out)
    refine ⟨by simp, .inl ⟨_, _, rfl, run_takeDeferred hKV, ?_⟩⟩
    have hv2 : Boxed ((W'.setCell ⟨b2, 0, none⟩ (.slice va kl vc)).setCell ⟨b3, 0, none⟩ (.bool true)) b2 30 (.slice va kl vc) := (setCell_heap _ n23).trans (Boxed.set (.slice va kl vc) Hv.out)
    have hv3 : Boxed ((W'.setCell ⟨b2, 0, none⟩ (.slice va kl vc)).setCell ⟨b3, 0, none⟩ (.bool true)) b3 4 (.bool true) := Boxed.set (v := .bool false) (.bool true) ((setCell_heap _ n23').trans Hok.out)
    have hg := grownBy_putObj' ((W'.setCell ⟨b2, 0, none⟩ (.slice va kl vc)).setCell ⟨b3, 0, none⟩ (.bool true)) D (.deferred none)
    have hu2 : Boxed (((W'.setCell ⟨b2, 0, none⟩ (.slice va kl vc)).setCell ⟨b3, 0, none⟩ (.bool true)).putObj D (.deferred none)) b2 30 (.slice va kl vc) := (hg.block b2 hv2.lt (fun e => by cases e; exact hne2 rfl)).trans hv2
    have hu3 : Boxed (((W'.setCell ⟨b2, 0, none⟩ (.slice va kl vc)).setCell ⟨b3, 0, none⟩ (.bool true)).putObj D (.deferred none)) b3 4 (.bool true) := (hg.block b3 hv3.lt (fun e => by cases e; exact hne3 rfl)).trans hv3
    have G1 : Frm (fun b => w.heap.size ≤ b) w W' := (Frm.ex HX.out).trans (HF.out.mono fun b e => by omega)
    have G2 := (G1.set (b := b2) (by omega) 0 (.slice va kl vc)).set (b := b3) (by omega) 0 (.bool true)
    have G3 := G2.putObj (D := D) (by omega) (.deferred none)
    have hXU := ex_of_below (G3.below (Nat.le_refl _) fun b hb => hb)
    refine ⟨_, results_cells2 rfl _ _ rfl rfl hu2.cell hu3.cell rfl rfl rfl rfl, (.slice va kl vc), rfl, ⟨ys.map (·.2), ?_, ?_⟩, hXU⟩
    · rw [← HS.out.1]
      have r1 := Hrow.out
      rw [Hkl.out] at r1 ⊢
      refine owns_lower (Z := w3.heap.size) (ownsRow_putObj (owns_same r1 fun k hk => ?_) _ hKV rfl) (by omega)
      have := ho k (by rw [Hkl.out]; exact hk)
      rw [setCell_heap _ (by omega), setCell_heap _ (by omega)]
    · intro j l hl
      obtain ⟨x, q1, q2⟩ := HS.out.2 j l hl
      refine ⟨x.2, by rw [List.getElem?_map, q1]; rfl, q2.k8 fun g cs fr hgg => ?_⟩
      have g1 : g ≠ b2 := fun e => by
        subst e
        have h9 : W'.heap[g]? = some (.cells #[_] 30 (0, 0)) := Hv.out
        rw [h9] at hgg
        injection hgg with hgg
        injection hgg with _ ht _
        exact absurd ht (by decide)
      have g2 : g ≠ b3 := fun e => by
        subst e
        have h9 : W'.heap[g]? = some (.cells #[_] 4 (0, 0)) := Hok.out
        rw [h9] at hgg
        injection hgg with hgg
        injection hgg with _ ht _
        exact absurd ht (by decide)
      have g3 : g ≠ D := fun e => by
        subst e
        rw [HK.out] at hgg
        cases hgg
      have h2 : ((W'.setCell ⟨b2, 0, none⟩ (.slice va kl vc)).setCell ⟨b3, 0, none⟩ (.bool true)).heap[g]? = some (.cells cs _ fr) := (setCell_heap _ g2).trans ((setCell_heap _ g1).trans hgg)
      exact (hg.block g (Array.getElem?_eq_some_iff.1 h2).1 (fun e => by cases e; exact g3 rfl)).trans h2
end Go.Proofs.YtabjamkkhlbajaaDoor
