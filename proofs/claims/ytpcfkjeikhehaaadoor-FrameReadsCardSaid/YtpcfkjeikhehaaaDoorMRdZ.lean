import Derived.Test.YtpcfkjeikhehaaaDoorMRdR
import Derived.Test.YtpcfkjeikhehaaaDoorMRdJ
import Derived.Test.YtpcfkjeikhehaaaDoorMFwT
import Derived.Test.YtpcfkjeikhehaaaDoorMFwP

/- The document's Decode. -/
set_option linter.unusedSimpArgs false
set_option linter.unusedVariables false
set_option maxRecDepth 20000
namespace Go.Proofs.YtpcfkjeikhehaaaDoor
open Go.RowKit
attribute [local go_sem high] index_sbF
theorem bn_tmodZ (x : UInt8) : (bn x).tmod 16 = ((x.toNat % 16 : Nat) : Int) := by
  unfold bn; rw [Int.tmod_eq_emod_of_nonneg (by omega)]; rfl
theorem bn_tdivZ (x : UInt8) : (bn x).tdiv 16 = ((x.toNat / 16 : Nat) : Int) := by
  unfold bn; rw [Int.tdiv_eq_ediv_of_nonneg (by omega)]; rfl
theorem fields_dup (kd : Int) : ∀ i j, i < j → j < (fieldsL kd).length → (fieldsL kd).getD i 0 ≠ (fieldsL kd).getD j 0 := by
  intro i j hij hj
  have h : fieldsL kd = [112] ∨ fieldsL kd = [111] ∨ fieldsL kd = [112, 99, 101] ∨ fieldsL kd = [111, 112] ∨ fieldsL kd = [112, 109, 100] ∨ fieldsL kd = [] := by
    unfold fieldsL; repeat' split
    all_goals simp
  rcases h with h | h | h | h | h | h <;> rw [h] at hj ⊢ <;> simp only [List.length_cons, List.length_nil] at hj
  · omega
  · omega
  · rcases (show (i = 0 ∧ j = 1) ∨ (i = 0 ∧ j = 2) ∨ (i = 1 ∧ j = 2) by omega) with ⟨rfl, rfl⟩ | ⟨rfl, rfl⟩ | ⟨rfl, rfl⟩ <;> decide
  · rcases (show (i = 0 ∧ j = 1) by omega) with ⟨rfl, rfl⟩; decide
  · rcases (show (i = 0 ∧ j = 1) ∨ (i = 0 ∧ j = 2) ∨ (i = 1 ∧ j = 2) by omega) with ⟨rfl, rfl⟩ | ⟨rfl, rfl⟩ | ⟨rfl, rfl⟩ <;> decide
  · omega
theorem fields_let (kd : Int) (k : Nat) (hk : k < (fieldsL kd).length) : (fieldsL kd).getD k 0 = 111 ∨ (fieldsL kd).getD k 0 = 112 ∨ (fieldsL kd).getD k 0 = 99 ∨ (fieldsL kd).getD k 0 = 101 ∨ (fieldsL kd).getD k 0 = 109 ∨ (fieldsL kd).getD k 0 = 100 := by
  have h : fieldsL kd = [112] ∨ fieldsL kd = [111] ∨ fieldsL kd = [112, 99, 101] ∨ fieldsL kd = [111, 112] ∨ fieldsL kd = [112, 109, 100] ∨ fieldsL kd = [] := by
    unfold fieldsL; repeat' split
    all_goals simp
  rcases h with h | h | h | h | h | h <;> rw [h] at hk ⊢ <;> simp only [List.length_cons, List.length_nil] at hk
  · rcases (show k = 0 by omega) with rfl; decide
  · rcases (show k = 0 by omega) with rfl; decide
  · rcases (show k = 0 ∨ k = 1 ∨ k = 2 by omega) with rfl | rfl | rfl <;> decide
  · rcases (show k = 0 ∨ k = 1 by omega) with rfl | rfl <;> decide
  · rcases (show k = 0 ∨ k = 1 ∨ k = 2 by omega) with rfl | rfl | rfl <;> decide
  · omega
/-- What stands between two letters. -/
structure DInv (A : World) (p q : Nat) (fl : List UInt8) (m0 : Ms × List UInt8 × Bool) (k : Nat) (W : World) (b : Ms) (r : List UInt8) (bd : Bool) (ev mv dv : Value) : Prop where
  pw : PreW fl m0 k (b, r, bd)
  tk : Tk A W (q + 1) p r bd
  ms : MsO W (q + 1) (MV b ev mv dv) b
  bk : W.heap[q]? = some (.cells #[I b.kd, I b.fr, I b.to, L b.tm, L b.pi, L b.pt, ev, L b.cm, .bool b.ok, mv, dv] 41 (0, 0))
  el : bd = false → b.es.length ≤ 1000000
  ne : ∀ j, k ≤ j → j < fl.length → fl.getD j 0 = 101 → ev = NIL
  nm : ∀ j, k ≤ j → j < fl.length → fl.getD j 0 = 109 → mv = NIL
section
variable {A w w' : World} {Z Z' p b : Nat} {rest : List UInt8} {bad : Bool}
theorem Tk.up (h : Tk A w Z p rest bad) (h1 : Z ≤ Z') (h2 : Z' ≤ w.heap.size) : Tk A w Z' p rest bad := ⟨h.ex, h2, ⟨h.hp.1, Nat.lt_of_lt_of_le h.hp.2 h1⟩, h.ll, h.bp⟩
theorem Tk.pokeQ (h : Tk A w Z p rest bad) (hb : A.heap.size ≤ b) (hbp : p ≠ b) (o : Nat) (x : Value) : Tk A (w.setCell ⟨b, o, none⟩ x) Z p rest bad := by
  obtain ⟨a, c, h1, h2⟩ := h.bp
  exact ⟨ex_set h.ex hb _, by rw [set_size]; exact h.hz, h.hp, h.ll, a, c, (setCell_heap _ hbp).trans h1, h2⟩
theorem Tk.pokesQ (h : Tk A w Z p rest bad) (hb : A.heap.size ≤ b) (hbp : p ≠ b) (o : Nat) (xs : List Value) : Tk A (w.setCells b o xs) Z p rest bad := by
  obtain ⟨a, c, h1, h2⟩ := h.bp
  exact ⟨ex_setCells h.ex hb _ _, by rw [setCells_size]; exact h.hz, h.hp, h.ll, a, c, (setCells_heap _ _ _ _ _ hbp).trans h1, h2⟩
end
theorem MsO.forms {w : World} {Z : Nat} {m : Ms} {ev mv dv : Value} (h : MsO w Z (MV m ev mv dv) m) : ∃ ea ec ma mc da dc, ev = .slice ea m.es.length ec ∧ mv = .slice ma m.mb.length mc ∧ dv = .slice da m.da.length dc := by
  obtain ⟨ev1, mv1, dv1, hq, o1, o2, o3⟩ := h.out
  obtain ⟨rfl, rfl, rfl⟩ : ev = ev1 ∧ mv = mv1 ∧ dv = dv1 := by
    simp only [MV, Value.agg.injEq, Array.mk.injEq, List.cons.injEq, and_true, true_and] at hq
    exact hq
  obtain ⟨ea, ec, rfl, _⟩ := OwnE.form o1
  obtain ⟨ma, mc, rfl, _⟩ := own_form o2
  obtain ⟨da, dc, rfl, _⟩ := own_form o3
  exact ⟨_, _, _, _, _, _, rfl, rfl, rfl⟩
theorem end_row {W : World} {b : Nat} {t : TypeId} {cs0 : Array Value} (xs : List Value) (h : W.heap[b]? = some (.cells cs0 t (0, 0))) (hl : xs.length = cs0.size) : cellsN (W.setCells b 0 xs) b 0 xs.length = some xs.toArray := by
  have := setCells_block b t (0, 0) xs 0 W cs0 h
  rw [splice_all _ _ hl] at this
  exact (block_cells this (by simp)).1
theorem end_row_wx {W : World} {X : More} {b : Nat} {t : TypeId} {cs0 : Array Value} (xs : List Value) (h : W.heap[b]? = some (.cells cs0 t (0, 0))) (hl : xs.length = cs0.size) : cellsN (wx (W.setCells b 0 xs) X) b 0 xs.length = some xs.toArray := by
  have := setCells_block b t (0, 0) xs 0 W cs0 h
  rw [splice_all _ _ hl] at this
  exact (block_cells (ex_block ⟨X, rfl⟩ this) (by simp)).1
theorem keep_exZ {Z : Nat} {w w' : World} (k : Ex w w') : Keep Z w w' := ⟨ex_size k, fun b _ hb => (ex_below k).block b hb⟩
set_option maxHeartbeats 1000000 in
theorem refdecode_any (l : List UInt8) (v : Value) (w : World) (hs : SlT w v l) (hl : l.length ≤ 900000) :
    Calls Tryd.prog 27 #[v] w (PostDec w (decP l).1 (decP l).2) := by
  have HS := Lib.hid (fun W (k : Ex w W) => hs.ex k)
  obtain ⟨a, c, rfl, k1, k2, k3, hrow⟩ := hs.out
  clear hs
  unfold maxLen at k2
  by_cases h16 : l.length < 16
  · have hd : decP l = (noM, 7) := by unfold decP; rw [if_pos h16]
    rw [hd]
    have h1 : (l.length : Int) < 16 := by omega
    clear hd
    go_enter Tryd.func27, Tryd.ntmps27
    go_wp2
    exact ret_rowV2 Tryd.results27 Tryd.underlying41 rfl info_msg rfl (block_cells (heap_alloc_new w _) rfl).1 rfl rfl ⟨_, rfl, mso_zero _ _, (by (try show Ex _ _); repeat (first | (with_reducible exact ex_refl _) | (with_reducible assumption) | (with_reducible refine ex_drewL ?_) | (with_reducible refine ex_appR ?_ _) | (with_reducible refine ex_wx ?_ _) | (with_reducible refine ex_drew ?_) | (with_reducible refine ex_alloc ?_ _)))⟩
  · have h1 : ¬ (l.length : Int) < 16 := by omega
    cases a with
    | none => exfalso; have := k3 rfl; omega
    | some ad =>
      clear k3
      obtain ⟨g, off, rfl⟩ : ∃ g off, ad = ⟨g, off, none⟩ := by
        rcases hrow.out with h0 | ⟨g, off, h1, _⟩
        · omega
        · exact ⟨g, off, Option.some.inj h1⟩
      clear hrow
      have hadd : (⟨g, off, none⟩ : Addr).add 16 = ⟨g, off + 16, none⟩ := by unfold Addr.add; split <;> simp_all
      have HSo : Hid (∀ W, Ex w W → SlT W (.slice (some ⟨g, off + 16, none⟩) (l.length - 16) (c - 16)) (l.drop 16)) := Lib.hid (fun W (k : Ex w W) => by have := SlT.from (HS.out W k) 16 (by omega); rw [hadd] at this; exact this)
      have hol : (l.drop 16).length ≤ 900000 := by rw [List.length_drop]; omega
      clear hadd
      have HSe := Lib.hid (fun W u (h : SlT W u (l.drop 16)) => refsealed_any (l.drop 16) u W h (by omega))
      have HD2 : Hid (¬ sealL (l.drop 16) = l → decP l = (noM, 171)) := Lib.hid (fun hse => by unfold decP; rw [if_neg h16, if_neg hse])
      have HD1 : Hid (sealL (l.drop 16) = l → ∀ k b, k ≤ (fieldsL (headD (l.drop 16)).1.kd).length → PreW (fieldsL (headD (l.drop 16)).1.kd) (headD (l.drop 16)) k b → (k = (fieldsL (headD (l.drop 16)).1.kd).length ∨ b.2.2 = true) →
        decP l = if b.2.2 = false ∧ rightM b.1 = true ∧ plainM b.1 = l.drop 16 then (b.1, 0) else (noM, 171)) := Lib.hid (fun hse k b hk hp he => decD (by omega) hse hk hp he)
      have hon : l.length = 16 → l.drop 16 = [] := fun h => List.drop_of_length_le (by omega)
      generalize hown : l.drop 16 = own at *
      have hol2 : own.length = l.length - 16 := by rw [← hown, List.length_drop]
      clear hown
      by_cases hc : c = 16
      · subst hc
        have ho := hon (by omega)
        have hl16 : l.length = 16 := by omega
        rw [hl16] at HS k1
        have HO : Hid (∀ W, Ex w W → SlT W (.slice (some ⟨g, off, none⟩) 0 0) own) := Lib.hid fun W k => by
          rw [ho]
          exact ⟨_, 0, rfl, Nat.le_refl _, by decide, fun _ => rfl, SlB.zero _ _ _⟩
        rw [hl16]
        have hn : own.length = 0 := by omega
        clear HSo h1 h16 ho hon
        by_cases hse : sealL own = l
        · have hsd : decide (sealL own = l) = true := decide_eq_true hse
          replace HD1 := Lib.hid (HD1.out hse)
          clear HD2 hse
          generalize sealL own = so at *
          go_enter Tryd.func27, Tryd.ntmps27
          have HN1 : Hid (∀ A W Z p, Tk A W Z p own false → _) := Lib.hid fun A W Z p h => tone_any (A := A) (w := W) (Z := Z) (p := p) h
          have HN2 : Hid (∀ A W Z p, Tk A W Z p (oneD own false).2.1 (oneD own false).2.2 → _) := Lib.hid fun A W Z p h => tone_any (A := A) (w := W) (Z := Z) (p := p) h
          have HN3 : Hid (∀ A W Z p, Tk A W Z p (oneD (oneD own false).2.1 (oneD own false).2.2).2.1 (oneD (oneD own false).2.1 (oneD own false).2.2).2.2 → _) := Lib.hid fun A W Z p h => tnum_any (A := A) (w := W) (Z := Z) (p := p) h
          unfold headD at HD1
          generalize oneD own false = q1 at *
          obtain ⟨c1, r1, b1⟩ := q1
          simp only at HN1 HN2 HN3 HD1
          generalize oneD r1 b1 = q2 at *
          obtain ⟨c2, r2, b2⟩ := q2
          have hx : (numD r2 b2).1 < 18446744073709551616 := (longN_le r2).2
          generalize numD r2 b2 = q3 at *
          obtain ⟨x3, r3, b3⟩ := q3
          simp only at HN1 HN2 HN3 HD1 hx
          rw [L_nat x3 hx] at HN3
          generalize UInt64.ofNat x3 = y3 at *
          have hc1 := bn_lt c1
          obtain ⟨g4, hd4, he4, hl4⟩ : ∃ g4 : Int, (bn c2).tdiv 16 = g4 ∧ ((c2.toNat / 16 : Nat) : Int) = g4 ∧ 0 ≤ g4 ∧ g4 < 16 := ⟨_, bn_tdivZ c2, rfl, by have := c2.toNat_lt; omega⟩
          obtain ⟨g5, hd5, he5, hl5⟩ : ∃ g5 : Int, (bn c2).tmod 16 = g5 ∧ ((c2.toNat % 16 : Nat) : Int) = g5 ∧ 0 ≤ g5 ∧ g5 < 16 := ⟨_, bn_tmodZ c2, rfl, by omega⟩
          rw [he4, he5] at HD1
          clear he4 he5
          have hkd : ((c1.toNat : Nat) : Int) = bn c1 := rfl
          rw [hkd] at HD1
          clear hkd
          have HFd := Lib.hid (fields_any (bn c1))
          generalize hk1 : bn c1 = kd at *
          have tok1 : True := trivial
          have tok2 : True := trivial
          go_wp2_with (first | (go_at_call 25; (with_reducible refine (HSe.out _ _ (HO.out _ (by (try show Ex _ _); repeat (first | (with_reducible exact ex_refl _) | (with_reducible assumption) | (with_reducible refine ex_drewL ?_) | (with_reducible refine ex_appR ?_ _) | (with_reducible refine ex_wx ?_ _) | (with_reducible refine ex_drew ?_) | (with_reducible refine ex_alloc ?_ _))))).mono ?_); rintro e w2 ⟨u1, rfl, hO, X1, rfl⟩; (try simp only [wx_wx, wx_drew] at hO)) | (go_at_call 10; (with_reducible refine (sameL_any _ _ _ _ _ (OwnL.slt (OwnL.ex hO (by (try show Ex _ _); repeat (first | (with_reducible exact ex_refl _) | (with_reducible assumption) | (with_reducible refine ex_drewL ?_) | (with_reducible refine ex_appR ?_ _) | (with_reducible refine ex_wx ?_ _) | (with_reducible refine ex_drew ?_) | (with_reducible refine ex_alloc ?_ _))))) (HS.out _ (by (try show Ex _ _); repeat (first | (with_reducible exact ex_refl _) | (with_reducible assumption) | (with_reducible refine ex_drewL ?_) | (with_reducible refine ex_appR ?_ _) | (with_reducible refine ex_wx ?_ _) | (with_reducible refine ex_drew ?_) | (with_reducible refine ex_alloc ?_ _))))).mono ?_); rw [hsd]; rintro e w3 ⟨rfl, X2, rfl⟩) | (go_at_call 50; have _t := tok1; obtain ⟨A, hA⟩ : ∃ A, wx (w.alloc (.cells ZM 41)) (X1.app X2) = A := ⟨_, rfl⟩; have hAz : A.heap.size = w.heap.size + 1 + (X1.blocks.length + X2.blocks.length) := (by rw [← hA]; simp [go_sem]); have kA : Ex w A := (by rw [← hA]; exact (by (try show Ex _ _); repeat (first | (with_reducible exact ex_refl _) | (with_reducible assumption) | (with_reducible refine ex_drewL ?_) | (with_reducible refine ex_appR ?_ _) | (with_reducible refine ex_wx ?_ _) | (with_reducible refine ex_drew ?_) | (with_reducible refine ex_alloc ?_ _)))); have hrs : A.heap[w.heap.size]? = some (.cells ZM 41 (0, 0)) := (by rw [← hA]; exact ex_block (by (try show Ex _ _); repeat (first | (with_reducible exact ex_refl _) | (with_reducible assumption) | (with_reducible refine ex_drewL ?_) | (with_reducible refine ex_appR ?_ _) | (with_reducible refine ex_wx ?_ _) | (with_reducible refine ex_drew ?_) | (with_reducible refine ex_alloc ?_ _))) (heap_alloc_new w _)); obtain ⟨p, hp⟩ : ∃ p, p = A.heap.size := ⟨_, rfl⟩; rw [hA, ← hAz, ← hp]; have hwp : w.heap.size < p := (by rw [hp, hAz]; omega); clear hA hO hAz; have H0 : Tk A (A.alloc (.cells #[.slice (some ⟨g, off, none⟩) 0 0, .bool false] 81)) (p + 1) p own false := ⟨ex_alloc (ex_refl _) _, by rw [hp]; simp [go_sem], ⟨Nat.le_of_eq hp.symm, Nat.lt_succ_self _⟩, by omega, (some ⟨g, off, none⟩), 0, by rw [hn, hp]; exact heap_alloc_new A _, by rw [hn]; exact HO.out A kA⟩; (with_reducible refine (HN1.out _ _ _ _ H0).mono ?_); rintro e w4 ⟨rfl, H4, M4⟩; have hpz4 := H4.hz; have hAp : A.heap.size ≤ p := Nat.le_of_eq hp.symm; replace hp := Lib.hid hp; replace H4 := Lib.hid H4; clear H0 M4 tok1) | (go_at_call 50; have _t := tok2; obtain ⟨q, hq⟩ : ∃ q, q = w4.heap.size := ⟨_, rfl⟩; rw [← hq]; generalize hW5 : World.alloc w4 _ = W5; have hqz5 : q < W5.heap.size := (by rw [← hW5, hq]; simp [go_sem]); have H5 : Tk A W5 (q + 1) p r1 b1 := (by rw [← hW5, hq]; exact (H4.out.grow (ex_alloc (ex_refl _) _)).up (by omega) (by simp [go_sem])); have hb5 : W5.heap[q]? = some (.cells #[I kd, .int .i64 0, .int .i64 0, .int .u64 0, .int .u64 0, .int .u64 0, .slice none 0 0, .int .u64 0, .bool false, .slice none 0 0, .slice none 0 0] 41 (0, 0)) := (by rw [← hW5, hq]; exact heap_alloc_new w4 _); have hpq : p < q := (by omega); clear hW5; replace hq := Lib.hid hq; (with_reducible refine (HN2.out _ _ _ _ H5).mono ?_); rintro e w6 ⟨rfl, H6, M6⟩; have hb6 := (M6.same q (by omega) (by omega) (by omega)).trans hb5; have hqz6 : q < w6.heap.size := Nat.lt_of_lt_of_le hqz5 M6.size; replace hb6 := Lib.hid hb6; replace H6 := Lib.hid H6; clear H5 M6 hb5 tok2) | (go_at_call 51; (with_reducible refine (HN3.out _ _ _ _ H6.out).mono ?_); rintro e w7 ⟨rfl, H7, M7⟩; have hb7 := (M7.same q (by omega) (by omega) (by omega)).trans hb6.out; have hqz7 : q < w7.heap.size := Nat.lt_of_lt_of_le hqz6 M7.size; obtain ⟨d0, _⟩ := block_cell (o := 0) (v := I kd) hb7 rfl; obtain ⟨d1, f1⟩ := block_cell (o := 1) (v := .int .i64 0) hb7 rfl; obtain ⟨d2, f2⟩ := block_cell (o := 2) (v := .int .i64 0) hb7 rfl; obtain ⟨d3, f3⟩ := block_cell (o := 3) (v := .int .u64 0) hb7 rfl; replace hb7 := Lib.hid hb7; replace H7 := Lib.hid H7; clear M7) | (go_at_call 38; generalize hW8 : World.setCell (World.setCell (World.setCell w7 _ _) _ _) _ _ = W8; have H8 : Tk A W8 (q + 1) p r3 b3 := (by rw [← hW8]; exact ((H7.out.pokeQ (by omega) (by omega) 1 _).pokeQ (by omega) (by omega) 2 _).pokeQ (by omega) (by omega) 3 _); have hb8 : W8.heap[q]? = some (.cells #[I kd, I g4, I g5, L y3, .int .u64 0, .int .u64 0, .slice none 0 0, .int .u64 0, .bool false, .slice none 0 0, .slice none 0 0] 41 (0, 0)) := (by rw [← hW8]; exact setCell_block _ (setCell_block _ (setCell_block _ hb7.out))); clear hW8; (with_reducible refine (HFd.out _).mono ?_); rintro e w9 ⟨rfl, k9⟩; have H9 := H8.grow k9; have hb9 := ex_block k9 hb8; replace H9 := Lib.hid H9; replace hb9 := Lib.hid hb9; clear k9 H8 hb8))
          have hfz : (fieldsS kd).size = (fieldsL kd).length := rfl
          have hlz := fieldsS_size kd
          have HL1 := Lib.hid (fields_dup kd)
          have HL2 := Lib.hid (fields_let kd)
          have HLs : Hid (∀ k, k < (fieldsL kd).length → sb (fieldsS kd) k = (fieldsL kd).getD k 0) := Lib.hid fun k hk => by simp [sb, fieldsS, hk]
          generalize fieldsS kd = fs at *
          generalize fieldsL kd = fl at *
          generalize hn2 : fs.size = n at *
          replace hfz : Hid (n = fl.length) := Lib.hid hfz
          go_loopw [9] (fun i W => ∃ (k : Nat) (b : Ms) (r : List UInt8) (bd : Bool) (ev mv dv : Value), k ≤ n ∧ i = I k ∧ Hid (DInv A p q fl ({ noM with kd := kd, fr := g4, to := g5, tm := y3 }, r3, b3) k W b r bd ev mv dv)) (fun i _ => n - (intOf i).toNat)
          case atStart =>
            exact ⟨0, _, _, _, NIL, NIL, NIL, by omega, rfl, Lib.hid ⟨rfl, H9.out, ⟨NIL, NIL, NIL, rfl, ownE_nil _ _, ownI_nil _ _, ownl_nil _ _⟩, hb9.out, fun _ => by simp [noM], fun _ _ _ _ => rfl, fun _ _ _ _ => rfl⟩⟩
          case round =>
            obtain ⟨k, b, r, bd, ev, mv, dv, hk, rfl, HI⟩ := hrel
            have hI := HI.out
            obtain ⟨ea, ec, ma, mc, da, dc, rfl, rfl, rfl⟩ := hI.ms.forms
            obtain ⟨ra, rc, hpb, _⟩ := hI.tk.bp
            have pb1 := (block_cell (o := 1) (v := .bool bd) hpb rfl).1
            have pzr := hI.tk.lt
            have hqr : q < wr.heap.size := hI.tk.hz
            obtain ⟨n0, nf0⟩ := block_cells (n := 11) hI.bk rfl
            by_cases hlt : k < n ∧ bd = false
            · obtain ⟨hlt, rfl⟩ := hlt
              have hkl : k < fl.length := by rw [← hfz.out]; exact hlt
              have hsk := HLs.out k hkl
              have hlet := HL2.out k hkl
              have hdup := Lib.hid fun j hj hjl => HL1.out k j hj hjl
              have HNE := Lib.hid hI.ne
              have HNM := Lib.hid hI.nm
              have hnk := fun e => hI.ne k (Nat.le_refl _) hkl e
              have hmk := fun e => hI.nm k (Nat.le_refl _) hkl e
              have HFR := Lib.hid fun y (h : FRel (fl.getD k 0) (b, r, false) y) => h
              generalize hfk : fl.getD k 0 = fk at *
              have HFk := Lib.hid (fun W (kk : Ex wr W) => tfield_any b _ _ _ fk hlet (hI.ms.keep (Keep.ofEx kk)) (hI.tk.grow kk) hnk hmk)
              replace hfk := Lib.hid hfk
              have hll := Lib.hid hI.tk.ll
              have hel := Lib.hid (hI.el rfl)
              have hbk := Lib.hid hI.bk
              have hpw := Lib.hid hI.pw
              have hlt2 : ((k : Nat) : Int) < n := by omega
              have hlt3 : ((k : Nat) : Int) < fs.size := by omega
              have hlt4 : k < fs.size := by omega
              clear hI HI hnk hmk hlet hpb
              replace hkl := Lib.hid hkl
              go_wp2
              refine wp_region_forkH (fun w' => ∃ X, w' = ix X) (.look 0 (.look 2 (.look 3 (.look 4 (.eff 1 (.eff 5 (.eff 6 .done))))))) (⟨_, rfl⟩) (by kernel_rfl) (by kernel_rfl) (fun _ _ d _ _ h => by cases d <;> exact h) ?_
              simp only [Fk.ops, nth]
              repeat (first | ((with_reducible refine wpForkH_look ?_); go_big_quiet_step (fail); (try (with_reducible refine wpQuiet_nil ?_))) | (with_reducible refine wpForkH_eff ?_) | ((with_reducible refine effH_F ?_ ?_); (focus rfl); go_simp) | ((with_reducible refine effH_T ?_ ?_); (focus rfl); (try dsimp only); go_wp2_with ((go_at_call 52; (with_reducible refine (HFk.out _ (by (try show Ex _ _); repeat (first | (with_reducible exact ex_refl _) | (with_reducible assumption) | (with_reducible refine ex_drewL ?_) | (with_reducible refine ex_appR ?_ _) | (with_reducible refine ex_wx ?_ _) | (with_reducible refine ex_drew ?_) | (with_reducible refine ex_alloc ?_ _)))).mono ?_); rintro e w10 ⟨b2, r2, bd2, ev2, mv2, dv2, rfl, hF, hne, hnm, hM, hT, hMt⟩; obtain ⟨ea2, ec2, ma2, mc2, da2, dc2, rfl, rfl, rfl⟩ := hM.forms; have hb10 := (hMt.same q hqr (by omega) (by omega)).trans hbk.out; have hq10 : q < w10.heap.size := Nat.lt_of_lt_of_le hqr hMt.size; obtain ⟨n10, nf10⟩ := block_cells (n := 11) hb10 rfl; replace hb10 := Lib.hid hb10; replace hF := Lib.hid hF; replace hne := Lib.hid hne; replace hnm := Lib.hid hnm; replace hM := Lib.hid hM; replace hT := Lib.hid hT; clear hMt)); refine mixQH_mk (⟨_, rfl⟩) ?_))
              all_goals (with_reducible refine wpForkH_nil ?_)
              all_goals
                go_wp2
                refine ⟨⟨k + 1, b2, r2, bd2, _, _, _, by omega, by go_num, Lib.hid ⟨⟨(b, r, false), hpw.out, rfl, by rw [hfk.out]; exact hF.out⟩, hT.out.pokesQ (by omega) (by omega) _ _, hM.out.keep (Keep.sets (Keep.refl _ _) (Nat.lt_succ_self q) _), ?_, frel_bad hF.out hll.out (fun _ => hel.out), fun j hj hjl e => ?_, fun j hj hjl e => ?_⟩⟩, by simp [intOf]; omega⟩
                · have hz := setCells_block q 41 (0, 0) [I b2.kd, I b2.fr, I b2.to, L b2.tm, L b2.pi, L b2.pt, .slice ea2 b2.es.length ec2, L b2.cm, .bool b2.ok, .slice ma2 b2.mb.length mc2, .slice da2 b2.da.length dc2] 0 _ _ hb10.out
                  rw [splice_all _ _ (by rfl)] at hz
                  exact hz
                · exact (hne.out (fun e2 => hdup.out j (by omega) hjl (by rw [e2, e]))).trans (HNE.out j (by omega) hjl e)
                · exact (hnm.out (fun e2 => hdup.out j (by omega) hjl (by rw [e2, e]))).trans (HNM.out j (by omega) hjl e)
            · have hend : k = n ∨ bd = true := by
                rcases Nat.lt_or_ge k n with h | h
                · right; cases bd with
                  | true => rfl
                  | false => exact absurd ⟨h, rfl⟩ hlt
                · left; omega
              have HD := HD1.out k (b, r, bd) (by rw [← hfz.out]; exact hk) hI.pw (by rw [← hfz.out]; exact hend)
              simp only at HD
              have kwr := ex_trans kA hI.tk.ex
              have hrr := ex_block hI.tk.ex hrs
              have hwz : w.heap.size < wr.heap.size := by omega
              obtain ⟨nr, nfr⟩ := block_cells (n := 11) hrr rfl
              clear hlt
              cases bd with
              | true =>
                rw [if_neg (by simp)] at HD
                replace HD := Lib.hid HD
                clear hend hI HI
                by_cases hkn : k < n
                · have hlt2 : ((k : Nat) : Int) < n := by omega
                  go_wp2
                  exact ret_rowV2 (cs := ZM) Tryd.results27 Tryd.underlying41 rfl info_msg rfl (end_row _ hrr rfl) rfl rfl (by rw [HD.out]; exact ⟨_, rfl, mso_zero _ _, ex_setCells kwr (Nat.le_refl _) _ _⟩)
                · have hlt2 : ¬ ((k : Nat) : Int) < n := by omega
                  go_wp2
                  exact ret_rowV2 (cs := ZM) Tryd.results27 Tryd.underlying41 rfl info_msg rfl (end_row _ hrr rfl) rfl rfl (by rw [HD.out]; exact ⟨_, rfl, mso_zero _ _, ex_setCells kwr (Nat.le_refl _) _ _⟩)
              | false =>
                obtain rfl : k = n := by rcases hend with h | h; exact h; cases h
                have HRt := Lib.hid (fun W (kk : Ex wr W) => right_any b _ W (hI.ms.msv.ex kk) (by have := hI.el rfl; omega))
                have HPl := Lib.hid (fun W (kk : Ex wr W) (hr : rightM b = true) => refplain_any b _ W (hI.ms.msv.ex kk) hr)
                have HMs := Lib.hid hI.ms
                have HOr := Lib.hid (fun W (kk : Ex wr W) => HO.out W (ex_trans kwr kk))
                clear hend hI HI
                replace hrr := Lib.hid hrr
                cases hrt : rightM b with
                | false =>
                  rw [if_neg (by simp [hrt])] at HD
                  rw [hrt] at HRt
                  replace HD := Lib.hid HD
                  replace hrt := Lib.hid hrt
                  go_wp2_with (go_at_call 19; (with_reducible refine (HRt.out _ (by (try show Ex _ _); repeat (first | (with_reducible exact ex_refl _) | (with_reducible assumption) | (with_reducible refine ex_drewL ?_) | (with_reducible refine ex_appR ?_ _) | (with_reducible refine ex_wx ?_ _) | (with_reducible refine ex_drew ?_) | (with_reducible refine ex_alloc ?_ _)))).mono ?_); rintro e w11 ⟨rfl, X11, rfl⟩)
                  refine ret_rowV2 (cs := ZM) Tryd.results27 Tryd.underlying41 rfl info_msg rfl ?_ rfl rfl ?_
                  · exact end_row_wx _ hrr.out (by rfl)
                  · rw [HD.out]; exact ⟨_, rfl, mso_zero _ _, ex_wx (ex_setCells kwr (Nat.le_refl _) _ _) _⟩
                | true =>
                  have HPl2 := Lib.hid (fun W (kk : Ex wr W) => HPl.out W kk hrt)
                  rw [hrt] at HRt
                  by_cases hpo : plainM b = own
                  · rw [if_pos ⟨rfl, hrt, hpo⟩] at HD
                    have hpd : decide (plainM b = own) = true := decide_eq_true hpo
                    replace HD := Lib.hid HD
                    replace hrt := Lib.hid hrt
                    clear HPl hpo
                    generalize plainM b = pm at *
                    go_wp2_with (first | (go_at_call 19; (with_reducible refine (HRt.out _ (by (try show Ex _ _); repeat (first | (with_reducible exact ex_refl _) | (with_reducible assumption) | (with_reducible refine ex_drewL ?_) | (with_reducible refine ex_appR ?_ _) | (with_reducible refine ex_wx ?_ _) | (with_reducible refine ex_drew ?_) | (with_reducible refine ex_alloc ?_ _)))).mono ?_); rintro e w11 ⟨rfl, X11, rfl⟩) | (go_at_call 41; (with_reducible refine (HPl2.out _ (by (try show Ex _ _); repeat (first | (with_reducible exact ex_refl _) | (with_reducible assumption) | (with_reducible refine ex_drewL ?_) | (with_reducible refine ex_appR ?_ _) | (with_reducible refine ex_wx ?_ _) | (with_reducible refine ex_drew ?_) | (with_reducible refine ex_alloc ?_ _)))).mono ?_); rintro e w12 ⟨u4, rfl, hO4, X12, rfl⟩; (try simp only [wx_wx, wx_drew] at hO4)) | (go_at_call 10; (with_reducible refine (sameL_any _ _ _ _ _ (OwnL.slt (OwnL.ex hO4 (by (try show Ex _ _); repeat (first | (with_reducible exact ex_refl _) | (with_reducible assumption) | (with_reducible refine ex_drewL ?_) | (with_reducible refine ex_appR ?_ _) | (with_reducible refine ex_wx ?_ _) | (with_reducible refine ex_drew ?_) | (with_reducible refine ex_alloc ?_ _))))) (HOr.out _ (by (try show Ex _ _); repeat (first | (with_reducible exact ex_refl _) | (with_reducible assumption) | (with_reducible refine ex_drewL ?_) | (with_reducible refine ex_appR ?_ _) | (with_reducible refine ex_wx ?_ _) | (with_reducible refine ex_drew ?_) | (with_reducible refine ex_alloc ?_ _))))).mono ?_); rw [hpd]; rintro e w13 ⟨rfl, X13, rfl⟩))
                    refine ret_rowV2 (cs := #[I b.kd, I b.fr, I b.to, L b.tm, L b.pi, L b.pt, .slice ea b.es.length ec, L b.cm, .bool b.ok, .slice ma b.mb.length mc, .slice da b.da.length dc]) Tryd.results27 Tryd.underlying41 rfl info_msg rfl ?_ rfl rfl ?_
                    · exact end_row_wx _ hrr.out (by rfl)
                    · rw [HD.out]; exact ⟨_, rfl, (HMs.out.keep (((Keep.refl _ _).sets (show w.heap.size < q + 1 by omega) _).trans (Keep.ofEx (ex_wx (ex_refl _) _)))).low (by omega), ex_wx (ex_setCells kwr (Nat.le_refl _) _ _) _⟩
                  · rw [if_neg (fun h => hpo h.2.2)] at HD
                    have hpd : decide (plainM b = own) = false := decide_eq_false hpo
                    replace HD := Lib.hid HD
                    replace hrt := Lib.hid hrt
                    clear HPl hpo
                    generalize plainM b = pm at *
                    go_wp2_with (first | (go_at_call 19; (with_reducible refine (HRt.out _ (by (try show Ex _ _); repeat (first | (with_reducible exact ex_refl _) | (with_reducible assumption) | (with_reducible refine ex_drewL ?_) | (with_reducible refine ex_appR ?_ _) | (with_reducible refine ex_wx ?_ _) | (with_reducible refine ex_drew ?_) | (with_reducible refine ex_alloc ?_ _)))).mono ?_); rintro e w11 ⟨rfl, X11, rfl⟩) | (go_at_call 41; (with_reducible refine (HPl2.out _ (by (try show Ex _ _); repeat (first | (with_reducible exact ex_refl _) | (with_reducible assumption) | (with_reducible refine ex_drewL ?_) | (with_reducible refine ex_appR ?_ _) | (with_reducible refine ex_wx ?_ _) | (with_reducible refine ex_drew ?_) | (with_reducible refine ex_alloc ?_ _)))).mono ?_); rintro e w12 ⟨u4, rfl, hO4, X12, rfl⟩; (try simp only [wx_wx, wx_drew] at hO4)) | (go_at_call 10; (with_reducible refine (sameL_any _ _ _ _ _ (OwnL.slt (OwnL.ex hO4 (by (try show Ex _ _); repeat (first | (with_reducible exact ex_refl _) | (with_reducible assumption) | (with_reducible refine ex_drewL ?_) | (with_reducible refine ex_appR ?_ _) | (with_reducible refine ex_wx ?_ _) | (with_reducible refine ex_drew ?_) | (with_reducible refine ex_alloc ?_ _))))) (HOr.out _ (by (try show Ex _ _); repeat (first | (with_reducible exact ex_refl _) | (with_reducible assumption) | (with_reducible refine ex_drewL ?_) | (with_reducible refine ex_appR ?_ _) | (with_reducible refine ex_wx ?_ _) | (with_reducible refine ex_drew ?_) | (with_reducible refine ex_alloc ?_ _))))).mono ?_); rw [hpd]; rintro e w13 ⟨rfl, X13, rfl⟩))
                    refine ret_rowV2 (cs := ZM) Tryd.results27 Tryd.underlying41 rfl info_msg rfl ?_ rfl rfl ?_
                    · exact end_row_wx _ hrr.out (by rfl)
                    · rw [HD.out]; exact ⟨_, rfl, mso_zero _ _, ex_wx (ex_setCells kwr (Nat.le_refl _) _ _) _⟩
        · have hsd : decide (sealL own = l) = false := decide_eq_false hse
          rw [HD2.out hse]
          clear HD1 HD2 hse
          generalize sealL own = so at *
          go_enter Tryd.func27, Tryd.ntmps27
          go_wp2_with (first | (go_at_call 25; (with_reducible refine (HSe.out _ _ (HO.out _ (by (try show Ex _ _); repeat (first | (with_reducible exact ex_refl _) | (with_reducible assumption) | (with_reducible refine ex_drewL ?_) | (with_reducible refine ex_appR ?_ _) | (with_reducible refine ex_wx ?_ _) | (with_reducible refine ex_drew ?_) | (with_reducible refine ex_alloc ?_ _))))).mono ?_); rintro e w2 ⟨u1, rfl, hO, X1, rfl⟩; (try simp only [wx_wx, wx_drew] at hO)) | (go_at_call 10; (with_reducible refine (sameL_any _ _ _ _ _ (OwnL.slt (OwnL.ex hO (by (try show Ex _ _); repeat (first | (with_reducible exact ex_refl _) | (with_reducible assumption) | (with_reducible refine ex_drewL ?_) | (with_reducible refine ex_appR ?_ _) | (with_reducible refine ex_wx ?_ _) | (with_reducible refine ex_drew ?_) | (with_reducible refine ex_alloc ?_ _))))) (HS.out _ (by (try show Ex _ _); repeat (first | (with_reducible exact ex_refl _) | (with_reducible assumption) | (with_reducible refine ex_drewL ?_) | (with_reducible refine ex_appR ?_ _) | (with_reducible refine ex_wx ?_ _) | (with_reducible refine ex_drew ?_) | (with_reducible refine ex_alloc ?_ _))))).mono ?_); rw [hsd]; rintro e w3 ⟨rfl, X2, rfl⟩))
          exact ret_rowV2 (cs := ZM) Tryd.results27 Tryd.underlying41 rfl info_msg rfl (cells_new (by (try show Ex _ _); repeat (first | (with_reducible exact ex_refl _) | (with_reducible assumption) | (with_reducible refine ex_drewL ?_) | (with_reducible refine ex_appR ?_ _) | (with_reducible refine ex_wx ?_ _) | (with_reducible refine ex_drew ?_) | (with_reducible refine ex_alloc ?_ _))) rfl) rfl rfl ⟨_, rfl, mso_zero _ _, (by (try show Ex _ _); repeat (first | (with_reducible exact ex_refl _) | (with_reducible assumption) | (with_reducible refine ex_drewL ?_) | (with_reducible refine ex_appR ?_ _) | (with_reducible refine ex_wx ?_ _) | (with_reducible refine ex_drew ?_) | (with_reducible refine ex_alloc ?_ _)))⟩
      · have HO := HSo
        have hc2 : ¬ (c : Int) = 16 := by omega
        have hc3 : (16 : Int) ≤ c := by omega
        have hc4 : (16 : Int) ≤ l.length := by omega
        have hn := hol2
        by_cases hse : sealL own = l
        · have hsd : decide (sealL own = l) = true := decide_eq_true hse
          replace HD1 := Lib.hid (HD1.out hse)
          clear HD2 hse
          generalize sealL own = so at *
          go_enter Tryd.func27, Tryd.ntmps27
          have HN1 : Hid (∀ A W Z p, Tk A W Z p own false → _) := Lib.hid fun A W Z p h => tone_any (A := A) (w := W) (Z := Z) (p := p) h
          have HN2 : Hid (∀ A W Z p, Tk A W Z p (oneD own false).2.1 (oneD own false).2.2 → _) := Lib.hid fun A W Z p h => tone_any (A := A) (w := W) (Z := Z) (p := p) h
          have HN3 : Hid (∀ A W Z p, Tk A W Z p (oneD (oneD own false).2.1 (oneD own false).2.2).2.1 (oneD (oneD own false).2.1 (oneD own false).2.2).2.2 → _) := Lib.hid fun A W Z p h => tnum_any (A := A) (w := W) (Z := Z) (p := p) h
          unfold headD at HD1
          generalize oneD own false = q1 at *
          obtain ⟨c1, r1, b1⟩ := q1
          simp only at HN1 HN2 HN3 HD1
          generalize oneD r1 b1 = q2 at *
          obtain ⟨c2, r2, b2⟩ := q2
          have hx : (numD r2 b2).1 < 18446744073709551616 := (longN_le r2).2
          generalize numD r2 b2 = q3 at *
          obtain ⟨x3, r3, b3⟩ := q3
          simp only at HN1 HN2 HN3 HD1 hx
          rw [L_nat x3 hx] at HN3
          generalize UInt64.ofNat x3 = y3 at *
          have hc1 := bn_lt c1
          obtain ⟨g4, hd4, he4, hl4⟩ : ∃ g4 : Int, (bn c2).tdiv 16 = g4 ∧ ((c2.toNat / 16 : Nat) : Int) = g4 ∧ 0 ≤ g4 ∧ g4 < 16 := ⟨_, bn_tdivZ c2, rfl, by have := c2.toNat_lt; omega⟩
          obtain ⟨g5, hd5, he5, hl5⟩ : ∃ g5 : Int, (bn c2).tmod 16 = g5 ∧ ((c2.toNat % 16 : Nat) : Int) = g5 ∧ 0 ≤ g5 ∧ g5 < 16 := ⟨_, bn_tmodZ c2, rfl, by omega⟩
          rw [he4, he5] at HD1
          clear he4 he5
          have hkd : ((c1.toNat : Nat) : Int) = bn c1 := rfl
          rw [hkd] at HD1
          clear hkd
          have HFd := Lib.hid (fields_any (bn c1))
          generalize hk1 : bn c1 = kd at *
          have tok1 : True := trivial
          have tok2 : True := trivial
          go_wp2_with (first | (go_at_call 25; (with_reducible refine (HSe.out _ _ (HO.out _ (by (try show Ex _ _); repeat (first | (with_reducible exact ex_refl _) | (with_reducible assumption) | (with_reducible refine ex_drewL ?_) | (with_reducible refine ex_appR ?_ _) | (with_reducible refine ex_wx ?_ _) | (with_reducible refine ex_drew ?_) | (with_reducible refine ex_alloc ?_ _))))).mono ?_); rintro e w2 ⟨u1, rfl, hO, X1, rfl⟩; (try simp only [wx_wx, wx_drew] at hO)) | (go_at_call 10; (with_reducible refine (sameL_any _ _ _ _ _ (OwnL.slt (OwnL.ex hO (by (try show Ex _ _); repeat (first | (with_reducible exact ex_refl _) | (with_reducible assumption) | (with_reducible refine ex_drewL ?_) | (with_reducible refine ex_appR ?_ _) | (with_reducible refine ex_wx ?_ _) | (with_reducible refine ex_drew ?_) | (with_reducible refine ex_alloc ?_ _))))) (HS.out _ (by (try show Ex _ _); repeat (first | (with_reducible exact ex_refl _) | (with_reducible assumption) | (with_reducible refine ex_drewL ?_) | (with_reducible refine ex_appR ?_ _) | (with_reducible refine ex_wx ?_ _) | (with_reducible refine ex_drew ?_) | (with_reducible refine ex_alloc ?_ _))))).mono ?_); rw [hsd]; rintro e w3 ⟨rfl, X2, rfl⟩) | (go_at_call 50; have _t := tok1; obtain ⟨A, hA⟩ : ∃ A, wx (w.alloc (.cells ZM 41)) (X1.app X2) = A := ⟨_, rfl⟩; have hAz : A.heap.size = w.heap.size + 1 + (X1.blocks.length + X2.blocks.length) := (by rw [← hA]; simp [go_sem]); have kA : Ex w A := (by rw [← hA]; exact (by (try show Ex _ _); repeat (first | (with_reducible exact ex_refl _) | (with_reducible assumption) | (with_reducible refine ex_drewL ?_) | (with_reducible refine ex_appR ?_ _) | (with_reducible refine ex_wx ?_ _) | (with_reducible refine ex_drew ?_) | (with_reducible refine ex_alloc ?_ _)))); have hrs : A.heap[w.heap.size]? = some (.cells ZM 41 (0, 0)) := (by rw [← hA]; exact ex_block (by (try show Ex _ _); repeat (first | (with_reducible exact ex_refl _) | (with_reducible assumption) | (with_reducible refine ex_drewL ?_) | (with_reducible refine ex_appR ?_ _) | (with_reducible refine ex_wx ?_ _) | (with_reducible refine ex_drew ?_) | (with_reducible refine ex_alloc ?_ _))) (heap_alloc_new w _)); obtain ⟨p, hp⟩ : ∃ p, p = A.heap.size := ⟨_, rfl⟩; rw [hA, ← hAz, ← hp]; have hwp : w.heap.size < p := (by rw [hp, hAz]; omega); clear hA hO hAz; have H0 : Tk A (A.alloc (.cells #[.slice (some ⟨g, off + 16, none⟩) (l.length - 16) (c - 16), .bool false] 81)) (p + 1) p own false := ⟨ex_alloc (ex_refl _) _, by rw [hp]; simp [go_sem], ⟨Nat.le_of_eq hp.symm, Nat.lt_succ_self _⟩, by omega, (some ⟨g, off + 16, none⟩), (c - 16), by rw [hn, hp]; exact heap_alloc_new A _, by rw [hn]; exact HO.out A kA⟩; (with_reducible refine (HN1.out _ _ _ _ H0).mono ?_); rintro e w4 ⟨rfl, H4, M4⟩; have hpz4 := H4.hz; have hAp : A.heap.size ≤ p := Nat.le_of_eq hp.symm; replace hp := Lib.hid hp; replace H4 := Lib.hid H4; clear H0 M4 tok1) | (go_at_call 50; have _t := tok2; obtain ⟨q, hq⟩ : ∃ q, q = w4.heap.size := ⟨_, rfl⟩; rw [← hq]; generalize hW5 : World.alloc w4 _ = W5; have hqz5 : q < W5.heap.size := (by rw [← hW5, hq]; simp [go_sem]); have H5 : Tk A W5 (q + 1) p r1 b1 := (by rw [← hW5, hq]; exact (H4.out.grow (ex_alloc (ex_refl _) _)).up (by omega) (by simp [go_sem])); have hb5 : W5.heap[q]? = some (.cells #[I kd, .int .i64 0, .int .i64 0, .int .u64 0, .int .u64 0, .int .u64 0, .slice none 0 0, .int .u64 0, .bool false, .slice none 0 0, .slice none 0 0] 41 (0, 0)) := (by rw [← hW5, hq]; exact heap_alloc_new w4 _); have hpq : p < q := (by omega); clear hW5; replace hq := Lib.hid hq; (with_reducible refine (HN2.out _ _ _ _ H5).mono ?_); rintro e w6 ⟨rfl, H6, M6⟩; have hb6 := (M6.same q (by omega) (by omega) (by omega)).trans hb5; have hqz6 : q < w6.heap.size := Nat.lt_of_lt_of_le hqz5 M6.size; replace hb6 := Lib.hid hb6; replace H6 := Lib.hid H6; clear H5 M6 hb5 tok2) | (go_at_call 51; (with_reducible refine (HN3.out _ _ _ _ H6.out).mono ?_); rintro e w7 ⟨rfl, H7, M7⟩; have hb7 := (M7.same q (by omega) (by omega) (by omega)).trans hb6.out; have hqz7 : q < w7.heap.size := Nat.lt_of_lt_of_le hqz6 M7.size; obtain ⟨d0, _⟩ := block_cell (o := 0) (v := I kd) hb7 rfl; obtain ⟨d1, f1⟩ := block_cell (o := 1) (v := .int .i64 0) hb7 rfl; obtain ⟨d2, f2⟩ := block_cell (o := 2) (v := .int .i64 0) hb7 rfl; obtain ⟨d3, f3⟩ := block_cell (o := 3) (v := .int .u64 0) hb7 rfl; replace hb7 := Lib.hid hb7; replace H7 := Lib.hid H7; clear M7) | (go_at_call 38; generalize hW8 : World.setCell (World.setCell (World.setCell w7 _ _) _ _) _ _ = W8; have H8 : Tk A W8 (q + 1) p r3 b3 := (by rw [← hW8]; exact ((H7.out.pokeQ (by omega) (by omega) 1 _).pokeQ (by omega) (by omega) 2 _).pokeQ (by omega) (by omega) 3 _); have hb8 : W8.heap[q]? = some (.cells #[I kd, I g4, I g5, L y3, .int .u64 0, .int .u64 0, .slice none 0 0, .int .u64 0, .bool false, .slice none 0 0, .slice none 0 0] 41 (0, 0)) := (by rw [← hW8]; exact setCell_block _ (setCell_block _ (setCell_block _ hb7.out))); clear hW8; (with_reducible refine (HFd.out _).mono ?_); rintro e w9 ⟨rfl, k9⟩; have H9 := H8.grow k9; have hb9 := ex_block k9 hb8; replace H9 := Lib.hid H9; replace hb9 := Lib.hid hb9; clear k9 H8 hb8))
          have hfz : (fieldsS kd).size = (fieldsL kd).length := rfl
          have hlz := fieldsS_size kd
          have HL1 := Lib.hid (fields_dup kd)
          have HL2 := Lib.hid (fields_let kd)
          have HLs : Hid (∀ k, k < (fieldsL kd).length → sb (fieldsS kd) k = (fieldsL kd).getD k 0) := Lib.hid fun k hk => by simp [sb, fieldsS, hk]
          generalize fieldsS kd = fs at *
          generalize fieldsL kd = fl at *
          generalize hn2 : fs.size = n at *
          replace hfz : Hid (n = fl.length) := Lib.hid hfz
          go_loopw [9] (fun i W => ∃ (k : Nat) (b : Ms) (r : List UInt8) (bd : Bool) (ev mv dv : Value), k ≤ n ∧ i = I k ∧ Hid (DInv A p q fl ({ noM with kd := kd, fr := g4, to := g5, tm := y3 }, r3, b3) k W b r bd ev mv dv)) (fun i _ => n - (intOf i).toNat)
          case atStart =>
            exact ⟨0, _, _, _, NIL, NIL, NIL, by omega, rfl, Lib.hid ⟨rfl, H9.out, ⟨NIL, NIL, NIL, rfl, ownE_nil _ _, ownI_nil _ _, ownl_nil _ _⟩, hb9.out, fun _ => by simp [noM], fun _ _ _ _ => rfl, fun _ _ _ _ => rfl⟩⟩
          case round =>
            obtain ⟨k, b, r, bd, ev, mv, dv, hk, rfl, HI⟩ := hrel
            have hI := HI.out
            obtain ⟨ea, ec, ma, mc, da, dc, rfl, rfl, rfl⟩ := hI.ms.forms
            obtain ⟨ra, rc, hpb, _⟩ := hI.tk.bp
            have pb1 := (block_cell (o := 1) (v := .bool bd) hpb rfl).1
            have pzr := hI.tk.lt
            have hqr : q < wr.heap.size := hI.tk.hz
            obtain ⟨n0, nf0⟩ := block_cells (n := 11) hI.bk rfl
            by_cases hlt : k < n ∧ bd = false
            · obtain ⟨hlt, rfl⟩ := hlt
              have hkl : k < fl.length := by rw [← hfz.out]; exact hlt
              have hsk := HLs.out k hkl
              have hlet := HL2.out k hkl
              have hdup := Lib.hid fun j hj hjl => HL1.out k j hj hjl
              have HNE := Lib.hid hI.ne
              have HNM := Lib.hid hI.nm
              have hnk := fun e => hI.ne k (Nat.le_refl _) hkl e
              have hmk := fun e => hI.nm k (Nat.le_refl _) hkl e
              have HFR := Lib.hid fun y (h : FRel (fl.getD k 0) (b, r, false) y) => h
              generalize hfk : fl.getD k 0 = fk at *
              have HFk := Lib.hid (fun W (kk : Ex wr W) => tfield_any b _ _ _ fk hlet (hI.ms.keep (Keep.ofEx kk)) (hI.tk.grow kk) hnk hmk)
              replace hfk := Lib.hid hfk
              have hll := Lib.hid hI.tk.ll
              have hel := Lib.hid (hI.el rfl)
              have hbk := Lib.hid hI.bk
              have hpw := Lib.hid hI.pw
              have hlt2 : ((k : Nat) : Int) < n := by omega
              have hlt3 : ((k : Nat) : Int) < fs.size := by omega
              have hlt4 : k < fs.size := by omega
              clear hI HI hnk hmk hlet hpb
              replace hkl := Lib.hid hkl
              go_wp2
              refine wp_region_forkH (fun w' => ∃ X, w' = ix X) (.look 0 (.look 2 (.look 3 (.look 4 (.eff 1 (.eff 5 (.eff 6 .done))))))) (⟨_, rfl⟩) (by kernel_rfl) (by kernel_rfl) (fun _ _ d _ _ h => by cases d <;> exact h) ?_
              simp only [Fk.ops, nth]
              repeat (first | ((with_reducible refine wpForkH_look ?_); go_big_quiet_step (fail); (try (with_reducible refine wpQuiet_nil ?_))) | (with_reducible refine wpForkH_eff ?_) | ((with_reducible refine effH_F ?_ ?_); (focus rfl); go_simp) | ((with_reducible refine effH_T ?_ ?_); (focus rfl); (try dsimp only); go_wp2_with ((go_at_call 52; (with_reducible refine (HFk.out _ (by (try show Ex _ _); repeat (first | (with_reducible exact ex_refl _) | (with_reducible assumption) | (with_reducible refine ex_drewL ?_) | (with_reducible refine ex_appR ?_ _) | (with_reducible refine ex_wx ?_ _) | (with_reducible refine ex_drew ?_) | (with_reducible refine ex_alloc ?_ _)))).mono ?_); rintro e w10 ⟨b2, r2, bd2, ev2, mv2, dv2, rfl, hF, hne, hnm, hM, hT, hMt⟩; obtain ⟨ea2, ec2, ma2, mc2, da2, dc2, rfl, rfl, rfl⟩ := hM.forms; have hb10 := (hMt.same q hqr (by omega) (by omega)).trans hbk.out; have hq10 : q < w10.heap.size := Nat.lt_of_lt_of_le hqr hMt.size; obtain ⟨n10, nf10⟩ := block_cells (n := 11) hb10 rfl; replace hb10 := Lib.hid hb10; replace hF := Lib.hid hF; replace hne := Lib.hid hne; replace hnm := Lib.hid hnm; replace hM := Lib.hid hM; replace hT := Lib.hid hT; clear hMt)); refine mixQH_mk (⟨_, rfl⟩) ?_))
              all_goals (with_reducible refine wpForkH_nil ?_)
              all_goals
                go_wp2
                refine ⟨⟨k + 1, b2, r2, bd2, _, _, _, by omega, by go_num, Lib.hid ⟨⟨(b, r, false), hpw.out, rfl, by rw [hfk.out]; exact hF.out⟩, hT.out.pokesQ (by omega) (by omega) _ _, hM.out.keep (Keep.sets (Keep.refl _ _) (Nat.lt_succ_self q) _), ?_, frel_bad hF.out hll.out (fun _ => hel.out), fun j hj hjl e => ?_, fun j hj hjl e => ?_⟩⟩, by simp [intOf]; omega⟩
                · have hz := setCells_block q 41 (0, 0) [I b2.kd, I b2.fr, I b2.to, L b2.tm, L b2.pi, L b2.pt, .slice ea2 b2.es.length ec2, L b2.cm, .bool b2.ok, .slice ma2 b2.mb.length mc2, .slice da2 b2.da.length dc2] 0 _ _ hb10.out
                  rw [splice_all _ _ (by rfl)] at hz
                  exact hz
                · exact (hne.out (fun e2 => hdup.out j (by omega) hjl (by rw [e2, e]))).trans (HNE.out j (by omega) hjl e)
                · exact (hnm.out (fun e2 => hdup.out j (by omega) hjl (by rw [e2, e]))).trans (HNM.out j (by omega) hjl e)
            · have hend : k = n ∨ bd = true := by
                rcases Nat.lt_or_ge k n with h | h
                · right; cases bd with
                  | true => rfl
                  | false => exact absurd ⟨h, rfl⟩ hlt
                · left; omega
              have HD := HD1.out k (b, r, bd) (by rw [← hfz.out]; exact hk) hI.pw (by rw [← hfz.out]; exact hend)
              simp only at HD
              have kwr := ex_trans kA hI.tk.ex
              have hrr := ex_block hI.tk.ex hrs
              have hwz : w.heap.size < wr.heap.size := by omega
              obtain ⟨nr, nfr⟩ := block_cells (n := 11) hrr rfl
              clear hlt
              cases bd with
              | true =>
                rw [if_neg (by simp)] at HD
                replace HD := Lib.hid HD
                clear hend hI HI
                by_cases hkn : k < n
                · have hlt2 : ((k : Nat) : Int) < n := by omega
                  go_wp2
                  exact ret_rowV2 (cs := ZM) Tryd.results27 Tryd.underlying41 rfl info_msg rfl (end_row _ hrr rfl) rfl rfl (by rw [HD.out]; exact ⟨_, rfl, mso_zero _ _, ex_setCells kwr (Nat.le_refl _) _ _⟩)
                · have hlt2 : ¬ ((k : Nat) : Int) < n := by omega
                  go_wp2
                  exact ret_rowV2 (cs := ZM) Tryd.results27 Tryd.underlying41 rfl info_msg rfl (end_row _ hrr rfl) rfl rfl (by rw [HD.out]; exact ⟨_, rfl, mso_zero _ _, ex_setCells kwr (Nat.le_refl _) _ _⟩)
              | false =>
                obtain rfl : k = n := by rcases hend with h | h; exact h; cases h
                have HRt := Lib.hid (fun W (kk : Ex wr W) => right_any b _ W (hI.ms.msv.ex kk) (by have := hI.el rfl; omega))
                have HPl := Lib.hid (fun W (kk : Ex wr W) (hr : rightM b = true) => refplain_any b _ W (hI.ms.msv.ex kk) hr)
                have HMs := Lib.hid hI.ms
                have HOr := Lib.hid (fun W (kk : Ex wr W) => HO.out W (ex_trans kwr kk))
                clear hend hI HI
                replace hrr := Lib.hid hrr
                cases hrt : rightM b with
                | false =>
                  rw [if_neg (by simp [hrt])] at HD
                  rw [hrt] at HRt
                  replace HD := Lib.hid HD
                  replace hrt := Lib.hid hrt
                  go_wp2_with (go_at_call 19; (with_reducible refine (HRt.out _ (by (try show Ex _ _); repeat (first | (with_reducible exact ex_refl _) | (with_reducible assumption) | (with_reducible refine ex_drewL ?_) | (with_reducible refine ex_appR ?_ _) | (with_reducible refine ex_wx ?_ _) | (with_reducible refine ex_drew ?_) | (with_reducible refine ex_alloc ?_ _)))).mono ?_); rintro e w11 ⟨rfl, X11, rfl⟩)
                  refine ret_rowV2 (cs := ZM) Tryd.results27 Tryd.underlying41 rfl info_msg rfl ?_ rfl rfl ?_
                  · exact end_row_wx _ hrr.out (by rfl)
                  · rw [HD.out]; exact ⟨_, rfl, mso_zero _ _, ex_wx (ex_setCells kwr (Nat.le_refl _) _ _) _⟩
                | true =>
                  have HPl2 := Lib.hid (fun W (kk : Ex wr W) => HPl.out W kk hrt)
                  rw [hrt] at HRt
                  by_cases hpo : plainM b = own
                  · rw [if_pos ⟨rfl, hrt, hpo⟩] at HD
                    have hpd : decide (plainM b = own) = true := decide_eq_true hpo
                    replace HD := Lib.hid HD
                    replace hrt := Lib.hid hrt
                    clear HPl hpo
                    generalize plainM b = pm at *
                    go_wp2_with (first | (go_at_call 19; (with_reducible refine (HRt.out _ (by (try show Ex _ _); repeat (first | (with_reducible exact ex_refl _) | (with_reducible assumption) | (with_reducible refine ex_drewL ?_) | (with_reducible refine ex_appR ?_ _) | (with_reducible refine ex_wx ?_ _) | (with_reducible refine ex_drew ?_) | (with_reducible refine ex_alloc ?_ _)))).mono ?_); rintro e w11 ⟨rfl, X11, rfl⟩) | (go_at_call 41; (with_reducible refine (HPl2.out _ (by (try show Ex _ _); repeat (first | (with_reducible exact ex_refl _) | (with_reducible assumption) | (with_reducible refine ex_drewL ?_) | (with_reducible refine ex_appR ?_ _) | (with_reducible refine ex_wx ?_ _) | (with_reducible refine ex_drew ?_) | (with_reducible refine ex_alloc ?_ _)))).mono ?_); rintro e w12 ⟨u4, rfl, hO4, X12, rfl⟩; (try simp only [wx_wx, wx_drew] at hO4)) | (go_at_call 10; (with_reducible refine (sameL_any _ _ _ _ _ (OwnL.slt (OwnL.ex hO4 (by (try show Ex _ _); repeat (first | (with_reducible exact ex_refl _) | (with_reducible assumption) | (with_reducible refine ex_drewL ?_) | (with_reducible refine ex_appR ?_ _) | (with_reducible refine ex_wx ?_ _) | (with_reducible refine ex_drew ?_) | (with_reducible refine ex_alloc ?_ _))))) (HOr.out _ (by (try show Ex _ _); repeat (first | (with_reducible exact ex_refl _) | (with_reducible assumption) | (with_reducible refine ex_drewL ?_) | (with_reducible refine ex_appR ?_ _) | (with_reducible refine ex_wx ?_ _) | (with_reducible refine ex_drew ?_) | (with_reducible refine ex_alloc ?_ _))))).mono ?_); rw [hpd]; rintro e w13 ⟨rfl, X13, rfl⟩))
                    refine ret_rowV2 (cs := #[I b.kd, I b.fr, I b.to, L b.tm, L b.pi, L b.pt, .slice ea b.es.length ec, L b.cm, .bool b.ok, .slice ma b.mb.length mc, .slice da b.da.length dc]) Tryd.results27 Tryd.underlying41 rfl info_msg rfl ?_ rfl rfl ?_
                    · exact end_row_wx _ hrr.out (by rfl)
                    · rw [HD.out]; exact ⟨_, rfl, (HMs.out.keep (((Keep.refl _ _).sets (show w.heap.size < q + 1 by omega) _).trans (Keep.ofEx (ex_wx (ex_refl _) _)))).low (by omega), ex_wx (ex_setCells kwr (Nat.le_refl _) _ _) _⟩
                  · rw [if_neg (fun h => hpo h.2.2)] at HD
                    have hpd : decide (plainM b = own) = false := decide_eq_false hpo
                    replace HD := Lib.hid HD
                    replace hrt := Lib.hid hrt
                    clear HPl hpo
                    generalize plainM b = pm at *
                    go_wp2_with (first | (go_at_call 19; (with_reducible refine (HRt.out _ (by (try show Ex _ _); repeat (first | (with_reducible exact ex_refl _) | (with_reducible assumption) | (with_reducible refine ex_drewL ?_) | (with_reducible refine ex_appR ?_ _) | (with_reducible refine ex_wx ?_ _) | (with_reducible refine ex_drew ?_) | (with_reducible refine ex_alloc ?_ _)))).mono ?_); rintro e w11 ⟨rfl, X11, rfl⟩) | (go_at_call 41; (with_reducible refine (HPl2.out _ (by (try show Ex _ _); repeat (first | (with_reducible exact ex_refl _) | (with_reducible assumption) | (with_reducible refine ex_drewL ?_) | (with_reducible refine ex_appR ?_ _) | (with_reducible refine ex_wx ?_ _) | (with_reducible refine ex_drew ?_) | (with_reducible refine ex_alloc ?_ _)))).mono ?_); rintro e w12 ⟨u4, rfl, hO4, X12, rfl⟩; (try simp only [wx_wx, wx_drew] at hO4)) | (go_at_call 10; (with_reducible refine (sameL_any _ _ _ _ _ (OwnL.slt (OwnL.ex hO4 (by (try show Ex _ _); repeat (first | (with_reducible exact ex_refl _) | (with_reducible assumption) | (with_reducible refine ex_drewL ?_) | (with_reducible refine ex_appR ?_ _) | (with_reducible refine ex_wx ?_ _) | (with_reducible refine ex_drew ?_) | (with_reducible refine ex_alloc ?_ _))))) (HOr.out _ (by (try show Ex _ _); repeat (first | (with_reducible exact ex_refl _) | (with_reducible assumption) | (with_reducible refine ex_drewL ?_) | (with_reducible refine ex_appR ?_ _) | (with_reducible refine ex_wx ?_ _) | (with_reducible refine ex_drew ?_) | (with_reducible refine ex_alloc ?_ _))))).mono ?_); rw [hpd]; rintro e w13 ⟨rfl, X13, rfl⟩))
                    refine ret_rowV2 (cs := ZM) Tryd.results27 Tryd.underlying41 rfl info_msg rfl ?_ rfl rfl ?_
                    · exact end_row_wx _ hrr.out (by rfl)
                    · rw [HD.out]; exact ⟨_, rfl, mso_zero _ _, ex_wx (ex_setCells kwr (Nat.le_refl _) _ _) _⟩
        · have hsd : decide (sealL own = l) = false := decide_eq_false hse
          rw [HD2.out hse]
          clear HD1 HD2 hse
          generalize sealL own = so at *
          go_enter Tryd.func27, Tryd.ntmps27
          go_wp2_with (first | (go_at_call 25; (with_reducible refine (HSe.out _ _ (HO.out _ (by (try show Ex _ _); repeat (first | (with_reducible exact ex_refl _) | (with_reducible assumption) | (with_reducible refine ex_drewL ?_) | (with_reducible refine ex_appR ?_ _) | (with_reducible refine ex_wx ?_ _) | (with_reducible refine ex_drew ?_) | (with_reducible refine ex_alloc ?_ _))))).mono ?_); rintro e w2 ⟨u1, rfl, hO, X1, rfl⟩; (try simp only [wx_wx, wx_drew] at hO)) | (go_at_call 10; (with_reducible refine (sameL_any _ _ _ _ _ (OwnL.slt (OwnL.ex hO (by (try show Ex _ _); repeat (first | (with_reducible exact ex_refl _) | (with_reducible assumption) | (with_reducible refine ex_drewL ?_) | (with_reducible refine ex_appR ?_ _) | (with_reducible refine ex_wx ?_ _) | (with_reducible refine ex_drew ?_) | (with_reducible refine ex_alloc ?_ _))))) (HS.out _ (by (try show Ex _ _); repeat (first | (with_reducible exact ex_refl _) | (with_reducible assumption) | (with_reducible refine ex_drewL ?_) | (with_reducible refine ex_appR ?_ _) | (with_reducible refine ex_wx ?_ _) | (with_reducible refine ex_drew ?_) | (with_reducible refine ex_alloc ?_ _))))).mono ?_); rw [hsd]; rintro e w3 ⟨rfl, X2, rfl⟩))
          exact ret_rowV2 (cs := ZM) Tryd.results27 Tryd.underlying41 rfl info_msg rfl (cells_new (by (try show Ex _ _); repeat (first | (with_reducible exact ex_refl _) | (with_reducible assumption) | (with_reducible refine ex_drewL ?_) | (with_reducible refine ex_appR ?_ _) | (with_reducible refine ex_wx ?_ _) | (with_reducible refine ex_drew ?_) | (with_reducible refine ex_alloc ?_ _))) rfl) rfl rfl ⟨_, rfl, mso_zero _ _, (by (try show Ex _ _); repeat (first | (with_reducible exact ex_refl _) | (with_reducible assumption) | (with_reducible refine ex_drewL ?_) | (with_reducible refine ex_appR ?_ _) | (with_reducible refine ex_wx ?_ _) | (with_reducible refine ex_drew ?_) | (with_reducible refine ex_alloc ?_ _)))⟩
end Go.Proofs.YtpcfkjeikhehaaaDoor
