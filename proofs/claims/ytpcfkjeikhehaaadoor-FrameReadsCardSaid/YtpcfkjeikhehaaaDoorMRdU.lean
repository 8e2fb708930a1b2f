import Derived.Test.YtpcfkjeikhehaaaDoorMRdT
import Derived.Test.YtpcfkjeikhehaaaDoorMFwA

/- The document's taker takes a field. -/
set_option linter.unusedSimpArgs false
set_option linter.unusedVariables false
set_option maxRecDepth 20000
namespace Go.Proofs.YtpcfkjeikhehaaaDoor
open Go.RowKit
abbrev MV (m : Ms) (ev mv dv : Value) : Value := .agg #[I m.kd, I m.fr, I m.to, L m.tm, L m.pi, L m.pt, ev, L m.cm, .bool m.ok, mv, dv]
theorem Mt.keep {p Z : Nat} {w w' : World} (h : Mt p p w w') (hp : p < Z) : Keep Z w w' := ⟨h.size, fun b h1 h2 => h.same b h2 (by omega) (by omega)⟩
theorem Mt.new {p : Nat} {w W : World} (h : Mt p p w W) {b o : Nat} {x : Value} (hb : w.heap.size ≤ b) : Mt p p w (W.setCell ⟨b, o, none⟩ x) :=
  ⟨by rw [set_size]; exact h.size, fun k h1 h2 h3 => (setCell_heap x (by omega)).trans (h.same k h1 h2 h3)⟩
theorem Mt.news {p : Nat} {w W : World} (h : Mt p p w W) {b o : Nat} {xs : List Value} (hb : w.heap.size ≤ b) : Mt p p w (W.setCells b o xs) :=
  ⟨by rw [setCells_size]; exact h.size, fun k h1 h2 h3 => (setCells_heap _ _ _ _ _ (by omega)).trans (h.same k h1 h2 h3)⟩
theorem Tk.poke {A w : World} {Z p : Nat} {rest : List UInt8} {bad : Bool} (h : Tk A w Z p rest bad) {b o : Nat} (hb : Z ≤ b) (x : Value) : Tk A (w.setCell ⟨b, o, none⟩ x) Z p rest bad := by
  obtain ⟨a, c, h1, h2⟩ := h.bp
  have hp := h.hp
  exact ⟨ex_set h.ex (by show _ ≤ b; omega) _, by rw [set_size]; exact h.hz, hp, h.ll, a, c, (setCell_heap x (by omega)).trans h1, h2⟩
theorem Tk.pokes {A w : World} {Z p : Nat} {rest : List UInt8} {bad : Bool} (h : Tk A w Z p rest bad) {b o : Nat} (hb : Z ≤ b) (xs : List Value) : Tk A (w.setCells b o xs) Z p rest bad := by
  obtain ⟨a, c, h1, h2⟩ := h.bp
  have hp := h.hp
  exact ⟨ex_setCells h.ex (by omega) _ _, by rw [setCells_size]; exact h.hz, hp, h.ll, a, c, (setCells_heap _ _ _ _ _ (by omega)).trans h1, h2⟩
abbrev ZM : Array Value := #[.int .i64 0, .int .i64 0, .int .i64 0, .int .u64 0, .int .u64 0, .int .u64 0, .slice none 0 0, .int .u64 0, .bool false, .slice none 0 0, .slice none 0 0]
/-- What stands where the field's call ends: the message in its block, the result's block behind it. -/
theorem tf_end {W : World} {w : World} {m : Ms} {ev mv dv : Value} {v0 : Array Value} (hb : W.heap[w.heap.size]? = some (.cells #[I m.kd, I m.fr, I m.to, L m.tm, L m.pi, L m.pt, ev, L m.cm, .bool m.ok, mv, dv] 41 (0, 0))) (hr : W.heap[w.heap.size + 1]? = some (.cells v0 41 (0, 0))) (h11 : v0.size = 11) :
    cellsN (W.setCells (w.heap.size + 1) 0 [I m.kd, I m.fr, I m.to, L m.tm, L m.pi, L m.pt, ev, L m.cm, .bool m.ok, mv, dv]) (w.heap.size + 1) 0 11 = some #[I m.kd, I m.fr, I m.to, L m.tm, L m.pi, L m.pt, ev, L m.cm, .bool m.ok, mv, dv] := by
  have hbk := setCells_block (w.heap.size + 1) 41 (0, 0) [I m.kd, I m.fr, I m.to, L m.tm, L m.pi, L m.pt, ev, L m.cm, .bool m.ok, mv, dv] 0 _ _ hr
  rw [splice_all _ _ (by simp [h11])] at hbk
  exact (block_cells hbk rfl).1
set_option maxHeartbeats 1000000 in
theorem tfield_c {A w : World} {Z p : Nat} {rest : List UInt8} {bad : Bool} (m : Ms) (ea ma da : Option Addr) (ec mc dc en mn dn : Nat) (h : Tk A w Z p rest bad) :
    Calls Tryd.prog 52 #[PT p, MV m (.slice ea en ec) (.slice ma mn mc) (.slice da dn dc), .int .u8 99] w fun x w' => x = .returned (MV { m with cm := UInt64.ofNat (numD rest bad).1 } (.slice ea en ec) (.slice ma mn mc) (.slice da dn dc)) ∧
      Tk A w' Z p (numD rest bad).2.1 (numD rest bad).2.2 ∧ Mt p p w w' := by
  have hp := h.hp.2
  have hz := h.hz
  have HN := Lib.hid (fun W (k : Ex w W) => tnum_any (h.grow k))
  have hx : (numD rest bad).1 < 18446744073709551616 := (longN_le rest).2
  generalize numD rest bad = r at *
  obtain ⟨x, r1, b1⟩ := r
  simp only at HN hx ⊢
  rw [L_nat x hx] at HN
  generalize UInt64.ofNat x = y at *
  obtain ⟨W1, hW1⟩ : ∃ W1, (w.alloc (.cells #[I m.kd, I m.fr, I m.to, L m.tm, L m.pi, L m.pt, .slice ea en ec, L m.cm, .bool m.ok, .slice ma mn mc, .slice da dn dc] 41)).alloc (.cells ZM 41) = W1 := ⟨_, rfl⟩
  have hk : Ex w W1 := by rw [← hW1]; exact ex_alloc (ex_alloc (ex_refl _) _) _
  have hb0 : W1.heap[w.heap.size]? = some (.cells #[I m.kd, I m.fr, I m.to, L m.tm, L m.pi, L m.pt, .slice ea en ec, L m.cm, .bool m.ok, .slice ma mn mc, .slice da dn dc] 41 (0, 0)) := by rw [← hW1, ex_of_alloc _ _ _ (by simp [go_sem])]; exact heap_alloc_new w _
  have hb1 : W1.heap[w.heap.size + 1]? = some (.cells ZM 41 (0, 0)) := by rw [← hW1]; exact alloc_at (by simp [go_sem])
  have hs1 : W1.heap.size = w.heap.size + 2 := by rw [← hW1]; simp [go_sem]
  replace hb0 := Lib.hid hb0
  replace hb1 := Lib.hid hb1
  clear h
  go_enter Tryd.func52, Tryd.ntmps52
  go_wp2_with (go_at_call 51; (with_reducible refine (HN.out _ hk).mono ?_); rintro e w2 ⟨rfl, H2, M2⟩; have hb2 := (M2.same w.heap.size (by omega) (by omega) (by omega)).trans hb0.out; have hb3 := (M2.same (w.heap.size + 1) (by omega) (by omega) (by omega)).trans hb1.out; have hz2 := M2.size; obtain ⟨d7, f7⟩ := block_cell (o := 7) (v := L m.cm) hb2 rfl; have hb4 := setCell_block (o := 7) (L y) hb2; have hb5 := (setCell_heap (o := 7) (b := w.heap.size) (L y) (show w.heap.size + 1 ≠ w.heap.size by omega)).trans hb3; obtain ⟨n4, _⟩ := block_cells (n := 11) hb4 rfl; obtain ⟨n5, nf5⟩ := block_cells (n := 11) hb5 rfl; have hq1 : w.heap.size < w2.heap.size := (by omega); have hq2 : w.heap.size + 1 < w2.heap.size := (by omega); have n6 := tf_end (m := { m with cm := y }) (ev := .slice ea en ec) (mv := .slice ma mn mc) (dv := .slice da dn dc) hb4 hb5 rfl; have HH := Lib.hid (And.intro H2 M2); clear H2 M2 hb2 hb3 hb4 hb5; replace n6 := Lib.hid n6)
  refine ret_row Tryd.results52 Tryd.underlying41 rfl info_msg rfl n6.out rfl ⟨rfl, (HH.out.1.poke (by omega) _).pokes (by omega) _, ?_⟩
  exact (((Mt.ex hk).trans HH.out.2).new (Nat.le_refl _)).news (Nat.le_succ _)
set_option maxHeartbeats 1000000 in
theorem tfield_o {A w : World} {Z p : Nat} {rest : List UInt8} {bad : Bool} (m : Ms) (ea ma da : Option Addr) (ec mc dc en mn dn : Nat) (h : Tk A w Z p rest bad) :
    Calls Tryd.prog 52 #[PT p, MV m (.slice ea en ec) (.slice ma mn mc) (.slice da dn dc), .int .u8 111] w fun x w' => x = .returned (MV { m with ok := decide ((oneD rest bad).1 = 1) } (.slice ea en ec) (.slice ma mn mc) (.slice da dn dc)) ∧
      Tk A w' Z p (oneD rest bad).2.1 (oneD rest bad).2.2 ∧ Mt p p w w' := by
  have hp := h.hp.2
  have hz := h.hz
  have HN := Lib.hid (fun W (k : Ex w W) => tone_any (h.grow k))
  generalize oneD rest bad = r at *
  obtain ⟨c, r1, b1⟩ := r
  simp only at HN ⊢
  have h2 : (bn c == 1) = decide (c = 1) := bn_beq c 1
  generalize decide (c = 1) = y at *
  obtain ⟨W1, hW1⟩ : ∃ W1, (w.alloc (.cells #[I m.kd, I m.fr, I m.to, L m.tm, L m.pi, L m.pt, .slice ea en ec, L m.cm, .bool m.ok, .slice ma mn mc, .slice da dn dc] 41)).alloc (.cells ZM 41) = W1 := ⟨_, rfl⟩
  have hk : Ex w W1 := by rw [← hW1]; exact ex_alloc (ex_alloc (ex_refl _) _) _
  have hb0 : W1.heap[w.heap.size]? = some (.cells #[I m.kd, I m.fr, I m.to, L m.tm, L m.pi, L m.pt, .slice ea en ec, L m.cm, .bool m.ok, .slice ma mn mc, .slice da dn dc] 41 (0, 0)) := by rw [← hW1, ex_of_alloc _ _ _ (by simp [go_sem])]; exact heap_alloc_new w _
  have hb1 : W1.heap[w.heap.size + 1]? = some (.cells ZM 41 (0, 0)) := by rw [← hW1]; exact alloc_at (by simp [go_sem])
  have hs1 : W1.heap.size = w.heap.size + 2 := by rw [← hW1]; simp [go_sem]
  replace hb0 := Lib.hid hb0
  replace hb1 := Lib.hid hb1
  clear h
  go_enter Tryd.func52, Tryd.ntmps52
  go_wp2_with (go_at_call 50; (with_reducible refine (HN.out _ hk).mono ?_); rintro e w2 ⟨rfl, H2, M2⟩; have hb2 := (M2.same w.heap.size (by omega) (by omega) (by omega)).trans hb0.out; have hb3 := (M2.same (w.heap.size + 1) (by omega) (by omega) (by omega)).trans hb1.out; have hz2 := M2.size; obtain ⟨d7, f7⟩ := block_cell (o := 8) (v := .bool m.ok) hb2 rfl; have hb4 := setCell_block (o := 8) (.bool y) hb2; have hb5 := (setCell_heap (o := 8) (b := w.heap.size) (.bool y) (show w.heap.size + 1 ≠ w.heap.size by omega)).trans hb3; obtain ⟨n4, _⟩ := block_cells (n := 11) hb4 rfl; obtain ⟨n5, nf5⟩ := block_cells (n := 11) hb5 rfl; have hq1 : w.heap.size < w2.heap.size := (by omega); have hq2 : w.heap.size + 1 < w2.heap.size := (by omega); have n6 := tf_end (m := { m with ok := y }) (ev := .slice ea en ec) (mv := .slice ma mn mc) (dv := .slice da dn dc) hb4 hb5 rfl; have HH := Lib.hid (And.intro H2 M2); clear H2 M2 hb2 hb3 hb4 hb5; replace n6 := Lib.hid n6)
  refine ret_row Tryd.results52 Tryd.underlying41 rfl info_msg rfl n6.out rfl ⟨rfl, (HH.out.1.poke (by omega) _).pokes (by omega) _, ?_⟩
  exact (((Mt.ex hk).trans HH.out.2).new (Nat.le_refl _)).news (Nat.le_succ _)
set_option maxHeartbeats 1000000 in
theorem tfield_p {A w : World} {Z p : Nat} {rest : List UInt8} {bad : Bool} (m : Ms) (ea ma da : Option Addr) (ec mc dc en mn dn : Nat) (h : Tk A w Z p rest bad) :
    Calls Tryd.prog 52 #[PT p, MV m (.slice ea en ec) (.slice ma mn mc) (.slice da dn dc), .int .u8 112] w fun x w' => x = .returned (MV { m with pi := UInt64.ofNat (numD rest bad).1, pt := UInt64.ofNat (numD (numD rest bad).2.1 (numD rest bad).2.2).1 } (.slice ea en ec) (.slice ma mn mc) (.slice da dn dc)) ∧
      Tk A w' Z p (numD (numD rest bad).2.1 (numD rest bad).2.2).2.1 (numD (numD rest bad).2.1 (numD rest bad).2.2).2.2 ∧ Mt p p w w' := by
  have hp := h.hp.2
  have hz := h.hz
  have HN := Lib.hid (fun W (k : Ex w W) => tnum_any (h.grow k))
  have HM := Lib.hid (fun W (hW : Tk A W Z p (numD rest bad).2.1 (numD rest bad).2.2) => tnum_any hW)
  have hx : (numD rest bad).1 < 18446744073709551616 := (longN_le rest).2
  have hy : (numD (numD rest bad).2.1 (numD rest bad).2.2).1 < 18446744073709551616 := (longN_le _).2
  generalize numD (numD rest bad).2.1 (numD rest bad).2.2 = r2 at *
  generalize numD rest bad = r at *
  obtain ⟨x, r1, b1⟩ := r
  obtain ⟨z, r2, b2⟩ := r2
  simp only at HN HM hx hy ⊢
  rw [L_nat x hx] at HN
  rw [L_nat z hy] at HM
  generalize UInt64.ofNat x = y at *
  generalize UInt64.ofNat z = u at *
  obtain ⟨W1, hW1⟩ : ∃ W1, (w.alloc (.cells #[I m.kd, I m.fr, I m.to, L m.tm, L m.pi, L m.pt, .slice ea en ec, L m.cm, .bool m.ok, .slice ma mn mc, .slice da dn dc] 41)).alloc (.cells ZM 41) = W1 := ⟨_, rfl⟩
  have hk : Ex w W1 := by rw [← hW1]; exact ex_alloc (ex_alloc (ex_refl _) _) _
  have hb0 : W1.heap[w.heap.size]? = some (.cells #[I m.kd, I m.fr, I m.to, L m.tm, L m.pi, L m.pt, .slice ea en ec, L m.cm, .bool m.ok, .slice ma mn mc, .slice da dn dc] 41 (0, 0)) := by rw [← hW1, ex_of_alloc _ _ _ (by simp [go_sem])]; exact heap_alloc_new w _
  have hb1 : W1.heap[w.heap.size + 1]? = some (.cells ZM 41 (0, 0)) := by rw [← hW1]; exact alloc_at (by simp [go_sem])
  have hs1 : W1.heap.size = w.heap.size + 2 := by rw [← hW1]; simp [go_sem]
  replace hb0 := Lib.hid hb0
  replace hb1 := Lib.hid hb1
  have tokA : True := trivial
  clear h
  go_enter Tryd.func52, Tryd.ntmps52
  go_wp2_with (first | (go_at_call 51; have _t := tokA; (with_reducible refine (HN.out _ hk).mono ?_); rintro e w1 ⟨rfl, H1, M1⟩; replace H1 := Lib.hid H1; clear tokA) | (go_at_call 51; (with_reducible refine (HM.out _ H1.out).mono ?_); rintro e w2 ⟨rfl, H2, M2⟩; replace M2 := M1.trans M2; have hb2 := (M2.same w.heap.size (by omega) (by omega) (by omega)).trans hb0.out; have hb3 := (M2.same (w.heap.size + 1) (by omega) (by omega) (by omega)).trans hb1.out; have hz2 := M2.size; obtain ⟨d4, f4⟩ := block_cell (o := 4) (v := L m.pi) hb2 rfl; obtain ⟨d5, f5⟩ := block_cell (o := 5) (v := L m.pt) hb2 rfl; have hb4 := setCell_block (o := 5) (L u) (setCell_block (o := 4) (L y) hb2); have hb5 := (setCell_heap (o := 5) (b := w.heap.size) (L u) (show w.heap.size + 1 ≠ w.heap.size by omega)).trans ((setCell_heap (o := 4) (b := w.heap.size) (L y) (show w.heap.size + 1 ≠ w.heap.size by omega)).trans hb3); obtain ⟨n4, _⟩ := block_cells (n := 11) hb4 rfl; obtain ⟨n5, nf5⟩ := block_cells (n := 11) hb5 rfl; have hq1 : w.heap.size < w2.heap.size := (by omega); have hq2 : w.heap.size + 1 < w2.heap.size := (by omega); have n6 := tf_end (m := { m with pi := y, pt := u }) (ev := .slice ea en ec) (mv := .slice ma mn mc) (dv := .slice da dn dc) hb4 hb5 rfl; have HH := Lib.hid (And.intro H2 M2); clear H2 M1 M2 hb2 hb3 hb4 hb5; replace n6 := Lib.hid n6))
  refine ret_row Tryd.results52 Tryd.underlying41 rfl info_msg rfl n6.out rfl ⟨rfl, ((HH.out.1.poke (by omega) _).poke (by omega) _).pokes (by omega) _, ?_⟩
  exact ((((Mt.ex hk).trans HH.out.2).new (Nat.le_refl _)).new (Nat.le_refl _)).news (Nat.le_succ _)
set_option maxHeartbeats 1000000 in
theorem tfield_d {A w : World} {Z p : Nat} {rest : List UInt8} {bad : Bool} (m : Ms) (ea ma da : Option Addr) (ec mc dc en mn dn : Nat) (h : Tk A w Z p rest bad) :
    Calls Tryd.prog 52 #[PT p, MV m (.slice ea en ec) (.slice ma mn mc) (.slice da dn dc), .int .u8 100] w fun x w' => (∃ dv, x = .returned (MV { m with da := (rawD (numD rest bad).1 (numD rest bad).2.1 (numD rest bad).2.2).1 } (.slice ea en ec) (.slice ma mn mc) dv) ∧ OwnL w' w.heap.size dv (rawD (numD rest bad).1 (numD rest bad).2.1 (numD rest bad).2.2).1) ∧
      Tk A w' Z p (rawD (numD rest bad).1 (numD rest bad).2.1 (numD rest bad).2.2).2.1 (rawD (numD rest bad).1 (numD rest bad).2.1 (numD rest bad).2.2).2.2 ∧ Mt p p w w' := by
  have hp := h.hp.2
  have hz := h.hz
  have HN := Lib.hid (fun W (k : Ex w W) => tnum_any (h.grow k))
  have hx : (numD rest bad).1 < 18446744073709551616 := (longN_le rest).2
  have HM := Lib.hid (fun W (hW : Tk A W Z p (numD rest bad).2.1 (numD rest bad).2.2) => traw_any hW (numD rest bad).1 hx)
  generalize rawD (numD rest bad).1 (numD rest bad).2.1 (numD rest bad).2.2 = r2 at *
  generalize numD rest bad = r at *
  obtain ⟨x, r1, b1⟩ := r
  obtain ⟨d, r2, b2⟩ := r2
  simp only at HN HM hx ⊢
  obtain ⟨W1, hW1⟩ : ∃ W1, (w.alloc (.cells #[I m.kd, I m.fr, I m.to, L m.tm, L m.pi, L m.pt, .slice ea en ec, L m.cm, .bool m.ok, .slice ma mn mc, .slice da dn dc] 41)).alloc (.cells ZM 41) = W1 := ⟨_, rfl⟩
  have hk : Ex w W1 := by rw [← hW1]; exact ex_alloc (ex_alloc (ex_refl _) _) _
  have hb0 : W1.heap[w.heap.size]? = some (.cells #[I m.kd, I m.fr, I m.to, L m.tm, L m.pi, L m.pt, .slice ea en ec, L m.cm, .bool m.ok, .slice ma mn mc, .slice da dn dc] 41 (0, 0)) := by rw [← hW1, ex_of_alloc _ _ _ (by simp [go_sem])]; exact heap_alloc_new w _
  have hb1 : W1.heap[w.heap.size + 1]? = some (.cells ZM 41 (0, 0)) := by rw [← hW1]; exact alloc_at (by simp [go_sem])
  have hs1 : W1.heap.size = w.heap.size + 2 := by rw [← hW1]; simp [go_sem]
  replace hb0 := Lib.hid hb0
  replace hb1 := Lib.hid hb1
  clear h
  go_enter Tryd.func52, Tryd.ntmps52
  go_wp2_with (first | (go_at_call 51; (with_reducible refine (HN.out _ hk).mono ?_); rintro e w1 ⟨rfl, H1, M1⟩; replace H1 := Lib.hid H1) | (go_at_call 78; (with_reducible refine (HM.out _ H1.out).mono ?_); rintro e w2 ⟨u, rfl, hO, H2, M2⟩; have hs9 := M1.size; replace M2 := M1.trans M2; have hb2 := (M2.same w.heap.size (by omega) (by omega) (by omega)).trans hb0.out; have hb3 := (M2.same (w.heap.size + 1) (by omega) (by omega) (by omega)).trans hb1.out; have hz2 := M2.size; obtain ⟨ua, uc, rfl, _⟩ := own_form hO; obtain ⟨d4, f4⟩ := block_cell (o := 10) (v := .slice da dn dc) hb2 rfl; have hb4 := setCell_block (o := 10) (.slice ua d.length uc) hb2; have hb5 := (setCell_heap (o := 10) (b := w.heap.size) (.slice ua d.length uc) (show w.heap.size + 1 ≠ w.heap.size by omega)).trans hb3; obtain ⟨n4, _⟩ := block_cells (n := 11) hb4 rfl; obtain ⟨n5, nf5⟩ := block_cells (n := 11) hb5 rfl; have hq1 : w.heap.size < w2.heap.size := (by omega); have hq2 : w.heap.size + 1 < w2.heap.size := (by omega); have n6 := tf_end (m := { m with da := d }) (ev := .slice ea en ec) (mv := .slice ma mn mc) (dv := .slice ua d.length uc) hb4 hb5 rfl; have hO2 := owns_low (Z' := w.heap.size + 2) hO (by omega); have HH := Lib.hid (And.intro H2 (And.intro M2 hO2)); clear H2 M1 M2 hO2 hO hb2 hb3 hb4 hb5; replace n6 := Lib.hid n6))
  have hO7 := own_keep HH.out.2.2 (Keep.sets (Keep.set (Keep.refl _ _) (show w.heap.size < w.heap.size + 2 by omega) (.slice ua d.length uc) (o := 10)) (show w.heap.size + 1 < w.heap.size + 2 by omega) (o := 0) [I m.kd, I m.fr, I m.to, L m.tm, L m.pi, L m.pt, .slice ea en ec, L m.cm, .bool m.ok, .slice ma mn mc, .slice ua d.length uc])
  refine ret_row Tryd.results52 Tryd.underlying41 rfl info_msg rfl n6.out rfl ⟨⟨_, rfl, owns_low hO7 (by omega)⟩, (HH.out.1.poke (by omega) _).pokes (by omega) _, ?_⟩
  exact (((Mt.ex hk).trans HH.out.2.1).new (Nat.le_refl _)).news (Nat.le_succ _)
end Go.Proofs.YtpcfkjeikhehaaaDoor

/- The document's taker takes a field of members, of entries. -/
set_option linter.unusedSimpArgs false
set_option linter.unusedVariables false
set_option maxRecDepth 20000
namespace Go.Proofs.YtpcfkjeikhehaaaDoor
open Go.RowKit
theorem Tk.mt {A w w' : World} {Z p b : Nat} {rest : List UInt8} {bad : Bool} (h : Tk A w Z p rest bad) (k : Mt b b w w') (hb : Z ≤ b) (kb : Below A.heap.size w w') : Tk A w' Z p rest bad := by
  obtain ⟨a, c, h1, h2⟩ := h.bp
  have hp := h.hp
  have hl := h.lt
  exact ⟨ex_of_below ((ex_below h.ex).trans kb), Nat.le_trans h.hz k.size, hp, h.ll, a, c, (k.same p hl (by omega) (by omega)).trans h1, h2⟩
theorem SlT.mt {w w' : World} {b : Nat} {v : Value} {l : List UInt8} (h : SlT w v l) (k : Mt b b w w') (hb : v.ownBlock ≠ some b) : SlT w' v l := by
  obtain ⟨a, c, rfl, h1, h2, h3, h4⟩ := h.out
  refine ⟨a, c, rfl, h1, h2, h3, ?_⟩
  rcases h4.out with h0 | ⟨g, off, rfl, hg, hc⟩
  · exact ⟨Or.inl h0⟩
  · refine SlB.mk' (Nat.lt_of_lt_of_le hg k.size) fun j hj => ?_
    rw [← hc j hj]
    have hne : g ≠ b := fun e => hb (by rw [← e]; rfl)
    simp only [World.cell?, k.same g hg hne hne]
theorem gF_some {l : List UInt8} {k : Nat} (h : k < l.length) : l[k]? = some (gF l k) := by
  unfold gF
  rw [List.getD_eq_getElem?_getD, List.getElem?_eq_getElem h]; rfl
theorem SlT.byteF {w : World} {a : Option Addr} {n c : Nat} {l : List UInt8} (h : SlT w (.slice a n c) l) {j : Nat} (hj : j < l.length) : ∃ g off, a = some ⟨g, off, none⟩ ∧ g < w.heap.size ∧ w.cell? ⟨g, off + j, none⟩ = some (B (gF l j)) := by
  obtain ⟨a2, c2, hv, h1, h2, h3, h4⟩ := h.out
  obtain ⟨rfl, rfl, rfl⟩ : a = a2 ∧ n = l.length ∧ c = c2 := by simpa using hv
  rcases h4.out with h0 | ⟨g, off, h5, h6, h7⟩
  · omega
  · exact ⟨g, off, h5, h6, h7 j hj⟩
def bytesI (d : List UInt8) : List Int := d.map fun c => (c.toNat : Int)
theorem bytesI_take (d : List UInt8) (k : Nat) (c : UInt8) (h : d[k]? = some c) : bytesI (d.take (k + 1)) = bytesI (d.take k) ++ [bn c] := by
  unfold bytesI
  rw [List.take_add_one, h]
  simp [bn]
set_option maxHeartbeats 2000000 in
theorem tfield_m {A w : World} {Z p : Nat} {rest : List UInt8} {bad : Bool} (m : Ms) (ea da : Option Addr) (ec dc en dn : Nat) (h : Tk A w Z p rest bad) :
    Calls Tryd.prog 52 #[PT p, MV m (.slice ea en ec) NIL (.slice da dn dc), .int .u8 109] w fun x w' => (∃ mv, x = .returned (MV { m with mb := bytesI (rawD (numD rest bad).1 (numD rest bad).2.1 (numD rest bad).2.2).1 } (.slice ea en ec) mv (.slice da dn dc)) ∧ OwnI w' w.heap.size mv (bytesI (rawD (numD rest bad).1 (numD rest bad).2.1 (numD rest bad).2.2).1)) ∧
      Tk A w' Z p (rawD (numD rest bad).1 (numD rest bad).2.1 (numD rest bad).2.2).2.1 (rawD (numD rest bad).1 (numD rest bad).2.1 (numD rest bad).2.2).2.2 ∧ Mt p p w w' := by
  have hp := h.hp.2
  have hpA := h.hp.1
  have hz := h.hz
  have hll := h.ll
  have HN := Lib.hid (fun W (k : Ex w W) => tnum_any (h.grow k))
  have hx : (numD rest bad).1 < 18446744073709551616 := (longN_le rest).2
  have HM := Lib.hid (fun W (hW : Tk A W Z p (numD rest bad).2.1 (numD rest bad).2.2) => traw_any hW (numD rest bad).1 hx)
  have hdl : (rawD (numD rest bad).1 (numD rest bad).2.1 (numD rest bad).2.2).1.length ≤ 1000000 := by
    unfold rawD numD; split
    · simp
    · simp only [List.length_take, List.length_drop]; omega
  generalize rawD (numD rest bad).1 (numD rest bad).2.1 (numD rest bad).2.2 = r2 at *
  generalize numD rest bad = r at *
  obtain ⟨x, r1, b1⟩ := r
  obtain ⟨d, r2, b2⟩ := r2
  simp only at HN HM hx hdl ⊢
  obtain ⟨ma, mc, mn, hmv⟩ : ∃ (ma : Option Addr) (mc mn : Nat), ma = none ∧ mc = 0 ∧ mn = 0 := ⟨_, _, _, rfl, rfl, rfl⟩
  rw [show NIL = Value.slice ma mn mc by rw [hmv.1, hmv.2.1, hmv.2.2]]
  replace hmv := Lib.hid hmv
  obtain ⟨W1, hW1⟩ : ∃ W1, (w.alloc (.cells #[I m.kd, I m.fr, I m.to, L m.tm, L m.pi, L m.pt, .slice ea en ec, L m.cm, .bool m.ok, .slice ma mn mc, .slice da dn dc] 41)).alloc (.cells ZM 41) = W1 := ⟨_, rfl⟩
  have hk : Ex w W1 := by rw [← hW1]; exact ex_alloc (ex_alloc (ex_refl _) _) _
  have hb0 : W1.heap[w.heap.size]? = some (.cells #[I m.kd, I m.fr, I m.to, L m.tm, L m.pi, L m.pt, .slice ea en ec, L m.cm, .bool m.ok, .slice ma mn mc, .slice da dn dc] 41 (0, 0)) := by rw [← hW1, ex_of_alloc _ _ _ (by simp [go_sem])]; exact heap_alloc_new w _
  have hb1 : W1.heap[w.heap.size + 1]? = some (.cells ZM 41 (0, 0)) := by rw [← hW1]; exact alloc_at (by simp [go_sem])
  have hs1 : W1.heap.size = w.heap.size + 2 := by rw [← hW1]; simp [go_sem]
  replace hb0 := Lib.hid hb0
  replace hb1 := Lib.hid hb1
  clear h
  go_enter Tryd.func52, Tryd.ntmps52
  go_wp2_with (first | (go_at_call 51; (with_reducible refine (HN.out _ hk).mono ?_); rintro e w1 ⟨rfl, H1, M1⟩; replace H1 := Lib.hid H1) | (go_at_call 78; (with_reducible refine (HM.out _ H1.out).mono ?_); rintro e w3 ⟨u, rfl, hO, H3, M3⟩; have hs9 := M1.size; replace M3 := M1.trans M3; have hb2 := (M3.same w.heap.size (by omega) (by omega) (by omega)).trans hb0.out; have hb3 := (M3.same (w.heap.size + 1) (by omega) (by omega) (by omega)).trans hb1.out; have hz3 := M3.size; obtain ⟨ua, uc, rfl, hul, _⟩ := own_form hO; have hub : ∀ g, Value.ownBlock (.slice ua d.length uc) = some g → w.heap.size + 2 ≤ g := (fun g hg => by have := (World.ownsRow.lt hO g hg).1; omega); have HU := Lib.hid hO.slt; replace H3 := Lib.hid H3; replace M3 := Lib.hid M3; replace hb2 := Lib.hid hb2; replace hb3 := Lib.hid hb3; replace hub := Lib.hid hub; clear hO M1))
  generalize hdn : d.length = n at *
  go_loopw [85] (fun i W => ∃ (k : Nat) (mv : Value), k ≤ n ∧ i = I k ∧ Hid (Mt w.heap.size w.heap.size w3 W) ∧ Hid (Below w.heap.size w3 W) ∧ Hid (OwnI W w3.heap.size mv (bytesI (d.take k))) ∧ Hid (W.heap[w.heap.size]? = some (.cells #[I m.kd, I m.fr, I m.to, L m.tm, L m.pi, L m.pt, .slice ea en ec, L m.cm, .bool m.ok, mv, .slice da dn dc] 41 (0, 0)))) (fun i _ => n - (intOf i).toNat)
  case atStart =>
    refine ⟨0, .slice ma mn mc, by omega, rfl, Lib.hid (Mt.refl _ _ _), Lib.hid (Below.refl _ _), Lib.hid ?_, hb2⟩
    obtain ⟨rfl, rfl, rfl⟩ := hmv.out
    exact ownI_nil _ _
  case round =>
    obtain ⟨k, mv, hk1, rfl, HT, HBl, HOw, HBk⟩ := hrel
    by_cases hlt : k < n
    · obtain ⟨g, off, rfl, hg, cb⟩ := (SlT.mt HU.out HT.out (fun e => by have := hub.out _ e; omega)).byteF (j := k) (by omega)
      have hdk : d[k]? = some (gF d k) := gF_some (by omega)
      have hbk1 := Lib.hid (bytesI_take d k _ hdk)
      generalize gF d k = c at *
      obtain ⟨f1, f2, hmv2, _⟩ := own_form HOw.out
      have hlk : (bytesI (d.take k)).length = k := by unfold bytesI; rw [List.length_map, List.length_take]; omega
      rw [hlk] at hmv2
      subst hmv2
      have c9 : wr.cell? ⟨w.heap.size, 9, none⟩ = some (.slice f1 k f2) := (block_cell HBk.out rfl).1
      have e9 : wr.frozen? ⟨w.heap.size, 9, none⟩ = false := (block_cell (o := 9) (v := .slice f1 k f2) HBk.out rfl).2
      have hbz : w.heap.size < wr.heap.size := (Array.getElem?_eq_some_iff.1 HBk.out).1
      have hz9 := HT.out.size
      have hwr : wrap64 (bn c) = bn c := by have := c.toNat_lt; unfold bn wrap64; omega
      have hlt2 : (k : Int) < n := by omega
      have hbm3 : w.heap.size < w3.heap.size := by omega
      have HK := Lib.hid (show k + 1 ≤ n by omega)
      have hlk2 := Lib.hid hlk
      have hdk2 := Lib.hid hdk
      clear hdk hlk
      go_wp2_with (at_builtin; refine wpAppZ (Z := w3.heap.size) (l := bytesI (d.take k)) (r := [bn c]) _ _ rfl rfl (owns_ex HOw.out (ex_alloc (ex_refl _) _)) rfl rfl rfl (sli_one _ (ex_refl _) rfl) (by rw [hlk2.out]; simp; omega) (by simp [go_sem]; omega) (fun v5 w5 hO5 hB5 => ?_); have hB6 := (below_of_ex (ex_alloc (ex_refl wr) _) hz9).trans hB5; clear hB5; rw [← hbk1.out] at hO5; have hlk3 : (bytesI (d.take (k + 1))).length = k + 1 := (by unfold bytesI; rw [List.length_map, List.length_take]; have := HK.out; omega); obtain ⟨j1, j2, hv5, _⟩ := own_form hO5; (rw [hlk3] at hv5); subst hv5; have y5 := (below_cellE hB6 hbm3 9).trans c9; have y6 := (below_frozE hB6 hbm3 9).trans e9; have hbz5 := Nat.lt_of_lt_of_le hbz hB6.size; replace hB6 := Lib.hid hB6; replace hO5 := Lib.hid hO5; clear hlk3)
      refine ⟨⟨k + 1, _, HK.out, by go_num, Lib.hid ⟨by rw [set_size]; exact Nat.le_trans hz9 hB6.out.size, fun b hb h1 h2 => (setCell_heap _ h1).trans ((hB6.out.block b hb).trans (HT.out.same b hb h1 h2))⟩, Lib.hid ((HBl.out.trans ⟨hB6.out.os, hB6.out.tape, hB6.out.output, hB6.out.size, fun b hb => hB6.out.block b (by omega)⟩).trans ((Below.refl _ _).setCell (p := ⟨w.heap.size, 9, none⟩) (Nat.le_refl _) _)), Lib.hid (own_keep hO5.out (Keep.set (Keep.refl _ _) hbm3 _)), Lib.hid ?_⟩, by have := HK.out; simp [intOf]; omega⟩
      have := setCell_block (o := 9) (.slice j1 (k + 1) j2) ((hB6.out.block w.heap.size hbm3).trans HBk.out)
      exact this
    · have hkn : k = n := by omega
      subst hkn
      clear hlt hk1
      obtain ⟨f1, f2, hmv2, _⟩ := own_form HOw.out
      have hbd : d.take d.length = d := List.take_length
      rw [← hdn, hbd] at HOw hmv2
      subst hmv2
      have hb5 := (HT.out.same (w.heap.size + 1) (by omega) (by omega) (by omega)).trans hb3.out
      obtain ⟨n4, _⟩ := block_cells (n := 11) HBk.out rfl
      obtain ⟨n5, nf5⟩ := block_cells (n := 11) hb5 rfl
      have hz9 := HT.out.size
      have hq1 : w.heap.size < wr.heap.size := by omega
      have hq2 : w.heap.size + 1 < wr.heap.size := by omega
      have n6 := Lib.hid (tf_end (m := { m with mb := bytesI d }) (ev := .slice ea en ec) (mv := .slice f1 (bytesI d).length f2) (dv := .slice da dn dc) HBk.out hb5 rfl)
      have HO7 := Lib.hid (own_keep HOw.out (Keep.sets (Keep.refl _ wr) (show w.heap.size + 1 < w3.heap.size by omega) (o := 0) [I m.kd, I m.fr, I m.to, L m.tm, L m.pi, L m.pt, .slice ea en ec, L m.cm, .bool m.ok, .slice f1 (bytesI d).length f2, .slice da dn dc]))
      have HT9 := Lib.hid (H3.out.mt HT.out hz ⟨HBl.out.os, HBl.out.tape, HBl.out.output, HBl.out.size, fun b hb => HBl.out.block b (by omega)⟩)
      have HM9 : Hid (Mt p p w wr) := Lib.hid ⟨Nat.le_trans ((Mt.ex hk).trans M3.out).size HT.out.size, fun b hb h1 h2 => (HBl.out.block b hb).trans (((Mt.ex hk).trans M3.out).same b hb h1 h2)⟩
      clear hb5
      go_wp2
      refine ret_row Tryd.results52 Tryd.underlying41 rfl info_msg rfl n6.out rfl ⟨⟨_, rfl, owns_low HO7.out (by omega)⟩, HT9.out.pokes (by omega) _, ?_⟩
      exact HM9.out.news (Nat.le_succ _)
end Go.Proofs.YtpcfkjeikhehaaaDoor
