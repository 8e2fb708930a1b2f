import Derived.Test.YtdohohafdplkiaaMDkDj

/- What is asked of the document's disk: Sync, Read. -/
set_option linter.unusedSimpArgs false
set_option linter.unusedVariables false
set_option maxRecDepth 20000
namespace Go.Proofs.Ytdohohafdplkiaa
open Go.RowKit
theorem said_mid {N : Nat → Prop} {w w4 w5 : World} {o1 : Obj} {hv qv hv5 qv5 : Value} {d d' : Dk} (hN : ∀ g, N g → g < w.heap.size) (h4 : (((w.alloc o1).alloc (.cells (rowD hv qv d) 32)).alloc (.cells zDk 32)).alloc (.cells (rowB 64 fun _ => 0) 39) = w4) (k5 : Ex w4 w5) (hR : RdN (NF N w4) w5 (.agg (rowD hv5 qv5 d')) d') :
    (w5.setCells (w.heap.size + 1) 0 (rowD hv5 qv5 d').toList).heap[w.heap.size + 1]? = some (.cells (rowD hv5 qv5 d') 32 (0, 0)) ∧
    (w5.setCells (w.heap.size + 1) 0 (rowD hv5 qv5 d').toList).heap[w.heap.size + 2]? = some (.cells zDk 32 (0, 0)) ∧
    (w5.setCells (w.heap.size + 1) 0 (rowD hv5 qv5 d').toList).heap[w.heap.size + 3]? = some (.cells (rowB 64 fun _ => 0) 39 (0, 0)) ∧
    Ex w (w5.setCells (w.heap.size + 1) 0 (rowD hv5 qv5 d').toList) ∧
    RdN (fun g => N g ∨ w.heap.size + 4 ≤ g) (w5.setCells (w.heap.size + 1) 0 (rowD hv5 qv5 d').toList) (.agg (rowD hv5 qv5 d')) d' := by
  obtain ⟨B2, B3, B4, B5⟩ := said_boxes h4
  have hs4 : w4.heap.size = w.heap.size + 4 := by rw [← h4]; simp [go_sem]
  have kw : Ex w w4 := by rw [← h4]; exact ex_alloc (ex_alloc (ex_alloc (ex_alloc (ex_refl _) _) _) _) _
  refine ⟨?_, (setCells_heap _ _ _ _ _ (by omega)).trans (ex_block k5 B4), (setCells_heap _ _ _ _ _ (by omega)).trans (ex_block k5 B5), ex_setCellsK (ex_trans kw k5) (by omega) _ _, ?_⟩
  · have := setCells_block (w.heap.size + 1) 32 (0, 0) (rowD hv5 qv5 d').toList 0 w5 _ (ex_block k5 B3)
    rw [spliceA_all _ _ (show (rowD hv5 qv5 d').toList.length = (rowD hv qv d).size from rfl)] at this
    exact this
  · refine (hR.keep (by rw [setCells_size]; exact Nat.le_refl _) fun g hg => setCells_heap _ _ _ _ _ ?_).mono fun g hg => hg.elim Or.inl fun h => Or.inr (by omega)
    rcases hg with h | h
    · have := hN g h; omega
    · omega
set_option maxHeartbeats 3000000 in
theorem said3_any {N : Nat → Prop} {w : World} {v : Value} {d : Dk} (h : RdN N w v d) (hN : ∀ g, N g → g < w.heap.size) (hok : DkOk d) (hops : d.ops < 1000000000) (at' n : Int) {kv : Value} {keep : List Bool} (hs : SlV1 KBo 1 w kv keep) :
    Calls Try.prog 15 #[.agg #[I 3, I at', I n, kv], v] w (PostNB N w ((syncD d).1, zeroB, (syncD d).2)) := by
  obtain ⟨hv, qv, rfl, o1, o2, s1, s2, m1, m2⟩ := h.out
  have hkv : kv.oneCell' = true := hs.one
  obtain ⟨w4, hw4⟩ : ∃ w4, (((w.alloc (.cells #[I 3, I at', I n, kv] 37)).alloc (.cells #[hv, qv, I d.ar, I d.dm, .bool d.dark, I (d.ops : Nat)] 32)).alloc (.cells #[.slice none 0 0, .slice none 0 0, .int .i64 0, .int .i64 0, .bool false, .int .i64 0] 32)).alloc (.cells (rowB 64 fun _ => 0) 39) = w4 := ⟨_, rfl⟩
  have k4 : Ex w w4 := by rw [← hw4]; exact ex_alloc (ex_alloc (ex_alloc (ex_alloc (ex_refl _) _) _) _) _
  have hs4 : Hid (w4.heap.size = w.heap.size + 4) := Lib.hid (by rw [← hw4]; simp [go_sem])
  have HM := Lib.hid (fun w5 hv5 qv5 d' => said_mid (N := N) (w := w) (hv := hv) (qv := qv) (d := d) (w5 := w5) (hv5 := hv5) (qv5 := qv5) (d' := d') hN hw4)
  have HB := Lib.hid (fun w5 (k : Ex w4 w5) => (let B := said_boxes hw4; (⟨ex_block k B.1, ex_block k B.2.1, ex_block k B.2.2.1, ex_block k B.2.2.2⟩ : _ ∧ _ ∧ _ ∧ _)))
  have hN4 : ∀ g, N g → g < w4.heap.size := fun g hg => Nat.lt_of_lt_of_le (hN g hg) (ex_size k4)
  have hz := Lib.hid zeroB_row
  have HS := Lib.hid (sync_doc (h.ex k4) hN4 hok hops)
  generalize syncD d = r at *
  obtain ⟨d', er⟩ := r
  simp only at HS ⊢
  obtain ⟨B2, B3, B4, B5⟩ := HB.out _ (ex_refl w4)
  obtain ⟨c0, f0⟩ := block_cell (o := 0) B2 rfl
  obtain ⟨n3, f3⟩ := block_cells (n := 6) B3 rfl
  have z2 := (Array.getElem?_eq_some_iff.1 B2).1
  have z3 := (Array.getElem?_eq_some_iff.1 B3).1
  clear B2 B3 B4 B5
  replace hw4 := Lib.hid hw4
  replace h := Lib.hid h
  replace hs := Lib.hid hs
  replace s1 := Lib.hid s1
  replace s2 := Lib.hid s2
  replace m1 := Lib.hid m1
  replace m2 := Lib.hid m2
  replace hN := Lib.hid hN
  replace hN4 := Lib.hid hN4
  replace hok := Lib.hid hok
  have kk4 := Lib.hid k4
  go_enter Try.func15, Try.ntmps15
  go_wp2_with (go_at_call 36; rw [hw4.out]; (with_reducible refine HS.out.mono ?_); rintro e w5 ⟨v5, rfl, hV5, k5⟩; obtain ⟨hv5, qv5, rfl, p1, p2, _⟩ := hV5.out; obtain ⟨x3, x4, x5, xk, xr⟩ := HM.out _ _ _ _ k5 hV5; obtain ⟨B2', B3', B4', B5'⟩ := HB.out _ k5; obtain ⟨n3', f3'⟩ := block_cells (n := 6) B3' rfl; have z3' := (Array.getElem?_eq_some_iff.1 B3').1; have y3 : cellsN (w5.setCells (w.heap.size + 1) 0 [hv5, qv5, I d'.ar, I d'.dm, .bool d'.dark, I (d'.ops : Nat)]) (w.heap.size + 1) 0 6 = some #[hv5, qv5, I d'.ar, I d'.dm, .bool d'.dark, I (d'.ops : Nat)] := (block_cells (n := 6) x3 rfl).1; have y4 : frozenN (w5.setCells (w.heap.size + 1) 0 [hv5, qv5, I d'.ar, I d'.dm, .bool d'.dark, I (d'.ops : Nat)]) (w.heap.size + 1 + 1) 0 6 = false := (block_cells (n := 6) x4 rfl).2; have y4' : cellsN (w5.setCells (w.heap.size + 1) 0 [hv5, qv5, I d'.ar, I d'.dm, .bool d'.dark, I (d'.ops : Nat)]) (w.heap.size + 1 + 1) 0 6 = some #[.slice none 0 0, .slice none 0 0, .int .i64 0, .int .i64 0, .bool false, .int .i64 0] := (block_cells (n := 6) x4 rfl).1; have y5 : cellsN w5 (w.heap.size + 1 + 1 + 1) 0 64 = some (rowB 64 fun _ => 0) := (block_cells (n := 64) B5' (by simp)).1; have y5' : frozenN w5 (w.heap.size + 1 + 1 + 1) 0 64 = false := (block_cells (n := 64) B5' (by simp)).2; have z4' : w.heap.size + 1 + 1 < w5.heap.size := (Array.getElem?_eq_some_iff.1 B4').1; have z5' : w.heap.size + 1 + 1 + 1 < w5.heap.size := (Array.getElem?_eq_some_iff.1 B5').1; replace x3 := Lib.hid x3; replace x4 := Lib.hid x4; replace x5 := Lib.hid x5; replace xk := Lib.hid xk; replace xr := Lib.hid xr; replace B2' := Lib.hid B2'; replace B3' := Lib.hid B3'; replace B4' := Lib.hid B4'; replace B5' := Lib.hid B5'; replace hV5 := Lib.hid hV5; replace k5 := Lib.hid k5)
  obtain ⟨u4, u5, uR⟩ := said_fin (bl := zeroB) (er := er) hN.out x4.out x5.out xk.out xr.out
  rw [hz.out] at u4 u5 uR
  exact ret_rowRB Try.results15 Try.underlying32 rfl info_rdk rfl u4 Try.underlying39 rfl info_blk rfl u5 rfl rfl uR
set_option maxHeartbeats 3000000 in
theorem said4_any {N : Nat → Prop} {w : World} {v : Value} {d : Dk} (h : RdN N w v d) (hN : ∀ g, N g → g < w.heap.size) (hok : DkOk d) (hops : d.ops < 1000000000) (at' n : Int) (h1 : -9223372036854775808 ≤ at') (h2 : at' < 9223372036854775808) {kv : Value} {keep : List Bool} (hs : SlV1 KBo 1 w kv keep) :
    Calls Try.prog 15 #[.agg #[I 4, I at', I n, kv], v] w (PostNB N w (readD d at')) := by
  obtain ⟨hv, qv, rfl, o1, o2, s1, s2, m1, m2⟩ := h.out
  have hkv : kv.oneCell' = true := hs.one
  obtain ⟨w4, hw4⟩ : ∃ w4, (((w.alloc (.cells #[I 4, I at', I n, kv] 37)).alloc (.cells #[hv, qv, I d.ar, I d.dm, .bool d.dark, I (d.ops : Nat)] 32)).alloc (.cells #[.slice none 0 0, .slice none 0 0, .int .i64 0, .int .i64 0, .bool false, .int .i64 0] 32)).alloc (.cells (rowB 64 fun _ => 0) 39) = w4 := ⟨_, rfl⟩
  have k4 : Ex w w4 := by rw [← hw4]; exact ex_alloc (ex_alloc (ex_alloc (ex_alloc (ex_refl _) _) _) _) _
  have hs4 : Hid (w4.heap.size = w.heap.size + 4) := Lib.hid (by rw [← hw4]; simp [go_sem])
  have HM := Lib.hid (fun w5 hv5 qv5 d' => said_mid (N := N) (w := w) (hv := hv) (qv := qv) (d := d) (w5 := w5) (hv5 := hv5) (qv5 := qv5) (d' := d') hN hw4)
  have HB := Lib.hid (fun w5 (k : Ex w4 w5) => (let B := said_boxes hw4; (⟨ex_block k B.1, ex_block k B.2.1, ex_block k B.2.2.1, ex_block k B.2.2.2⟩ : _ ∧ _ ∧ _ ∧ _)))
  have hN4 : ∀ g, N g → g < w4.heap.size := fun g hg => Nat.lt_of_lt_of_le (hN g hg) (ex_size k4)
  have hz := Lib.hid zeroB_row
  have HS := Lib.hid (read_doc (h.ex k4) hN4 hok at' h1 h2 hops)
  generalize readD d at' = r at *
  obtain ⟨d', bl, er⟩ := r
  unfold PostNB at HS
  simp only at HS
  obtain ⟨B2, B3, B4, B5⟩ := HB.out _ (ex_refl w4)
  obtain ⟨c0, f0⟩ := block_cell (o := 0) B2 rfl
  obtain ⟨c1, f1⟩ := block_cell (o := 1) B2 rfl
  obtain ⟨n3, f3⟩ := block_cells (n := 6) B3 rfl
  have z2 := (Array.getElem?_eq_some_iff.1 B2).1
  have z3 := (Array.getElem?_eq_some_iff.1 B3).1
  clear B2 B3 B4 B5
  replace hw4 := Lib.hid hw4
  replace h := Lib.hid h
  replace hs := Lib.hid hs
  replace s1 := Lib.hid s1
  replace s2 := Lib.hid s2
  replace m1 := Lib.hid m1
  replace m2 := Lib.hid m2
  replace hN := Lib.hid hN
  replace hN4 := Lib.hid hN4
  replace hok := Lib.hid hok
  have kk4 := Lib.hid k4
  go_enter Try.func15, Try.ntmps15
  go_wp2_with (go_at_call 37; rw [hw4.out]; (with_reducible refine HS.out.mono ?_); rintro e w5 ⟨v5, rfl, hV5, k5⟩; obtain ⟨hv5, qv5, rfl, p1, p2, _⟩ := hV5.out; obtain ⟨B2', B3', B4', B5'⟩ := HB.out _ k5; have y4 : frozenN w5 (w.heap.size + 1 + 1) 0 6 = false := (block_cells (n := 6) B4' rfl).2; have y4' : cellsN w5 (w.heap.size + 1 + 1) 0 6 = some #[.slice none 0 0, .slice none 0 0, .int .i64 0, .int .i64 0, .bool false, .int .i64 0] := (block_cells (n := 6) B4' rfl).1; have y5 : cellsN w5 (w.heap.size + 1 + 1 + 1) 0 64 = some (rowB 64 fun _ => 0) := (block_cells (n := 64) B5' (by simp)).1; have y5' : frozenN w5 (w.heap.size + 1 + 1 + 1) 0 64 = false := (block_cells (n := 64) B5' (by simp)).2; have z4' : w.heap.size + 1 + 1 < w5.heap.size := (Array.getElem?_eq_some_iff.1 B4').1; have z5' : w.heap.size + 1 + 1 + 1 < w5.heap.size := (Array.getElem?_eq_some_iff.1 B5').1; replace B2' := Lib.hid B2'; replace B3' := Lib.hid B3'; replace B4' := Lib.hid B4'; replace B5' := Lib.hid B5'; replace hV5 := Lib.hid hV5; replace k5 := Lib.hid k5)
  have xr : RdN (fun g => N g ∨ w.heap.size + 4 ≤ g) w5 (.agg (rowD hv5 qv5 d')) d' := hV5.out.mono fun g hg => hg.elim Or.inl fun h => Or.inr (by have := hs4.out; omega)
  obtain ⟨u4, u5, uR⟩ := said_fin (bl := bl) (er := er) hN.out B4'.out B5'.out (ex_trans kk4.out k5.out) xr
  exact ret_rowRB Try.results15 Try.underlying32 rfl info_rdk rfl u4 Try.underlying39 rfl info_blk rfl u5 rfl rfl uR
set_option maxHeartbeats 3000000 in
theorem said5_any {N : Nat → Prop} {w : World} {v : Value} {d : Dk} (h : RdN N w v d) (hN : ∀ g, N g → g < w.heap.size) (hok : DkOk d) (hops : d.ops < 1000000000) (at' n : Int) (h1 : -9223372036854775808 ≤ at') (h2 : at' < 9223372036854775808) {kv : Value} {keep : List Bool} (hs : SlV1 KBo 1 w kv keep) :
    Calls Try.prog 15 #[.agg #[I 5, I at', I n, kv], v] w (PostNB N w (readD d at')) := by
  obtain ⟨hv, qv, rfl, o1, o2, s1, s2, m1, m2⟩ := h.out
  have hkv : kv.oneCell' = true := hs.one
  obtain ⟨w4, hw4⟩ : ∃ w4, (((w.alloc (.cells #[I 5, I at', I n, kv] 37)).alloc (.cells #[hv, qv, I d.ar, I d.dm, .bool d.dark, I (d.ops : Nat)] 32)).alloc (.cells #[.slice none 0 0, .slice none 0 0, .int .i64 0, .int .i64 0, .bool false, .int .i64 0] 32)).alloc (.cells (rowB 64 fun _ => 0) 39) = w4 := ⟨_, rfl⟩
  have k4 : Ex w w4 := by rw [← hw4]; exact ex_alloc (ex_alloc (ex_alloc (ex_alloc (ex_refl _) _) _) _) _
  have hs4 : Hid (w4.heap.size = w.heap.size + 4) := Lib.hid (by rw [← hw4]; simp [go_sem])
  have HM := Lib.hid (fun w5 hv5 qv5 d' => said_mid (N := N) (w := w) (hv := hv) (qv := qv) (d := d) (w5 := w5) (hv5 := hv5) (qv5 := qv5) (d' := d') hN hw4)
  have HB := Lib.hid (fun w5 (k : Ex w4 w5) => (let B := said_boxes hw4; (⟨ex_block k B.1, ex_block k B.2.1, ex_block k B.2.2.1, ex_block k B.2.2.2⟩ : _ ∧ _ ∧ _ ∧ _)))
  have hN4 : ∀ g, N g → g < w4.heap.size := fun g hg => Nat.lt_of_lt_of_le (hN g hg) (ex_size k4)
  have hz := Lib.hid zeroB_row
  have HS := Lib.hid (read_doc (h.ex k4) hN4 hok at' h1 h2 hops)
  generalize readD d at' = r at *
  obtain ⟨d', bl, er⟩ := r
  unfold PostNB at HS
  simp only at HS
  obtain ⟨B2, B3, B4, B5⟩ := HB.out _ (ex_refl w4)
  obtain ⟨c0, f0⟩ := block_cell (o := 0) B2 rfl
  obtain ⟨c1, f1⟩ := block_cell (o := 1) B2 rfl
  obtain ⟨n3, f3⟩ := block_cells (n := 6) B3 rfl
  have z2 := (Array.getElem?_eq_some_iff.1 B2).1
  have z3 := (Array.getElem?_eq_some_iff.1 B3).1
  clear B2 B3 B4 B5
  replace hw4 := Lib.hid hw4
  replace h := Lib.hid h
  replace hs := Lib.hid hs
  replace s1 := Lib.hid s1
  replace s2 := Lib.hid s2
  replace m1 := Lib.hid m1
  replace m2 := Lib.hid m2
  replace hN := Lib.hid hN
  replace hN4 := Lib.hid hN4
  replace hok := Lib.hid hok
  have kk4 := Lib.hid k4
  go_enter Try.func15, Try.ntmps15
  go_wp2_with (go_at_call 37; rw [hw4.out]; (with_reducible refine HS.out.mono ?_); rintro e w5 ⟨v5, rfl, hV5, k5⟩; obtain ⟨hv5, qv5, rfl, p1, p2, _⟩ := hV5.out; obtain ⟨B2', B3', B4', B5'⟩ := HB.out _ k5; have y4 : frozenN w5 (w.heap.size + 1 + 1) 0 6 = false := (block_cells (n := 6) B4' rfl).2; have y4' : cellsN w5 (w.heap.size + 1 + 1) 0 6 = some #[.slice none 0 0, .slice none 0 0, .int .i64 0, .int .i64 0, .bool false, .int .i64 0] := (block_cells (n := 6) B4' rfl).1; have y5 : cellsN w5 (w.heap.size + 1 + 1 + 1) 0 64 = some (rowB 64 fun _ => 0) := (block_cells (n := 64) B5' (by simp)).1; have y5' : frozenN w5 (w.heap.size + 1 + 1 + 1) 0 64 = false := (block_cells (n := 64) B5' (by simp)).2; have z4' : w.heap.size + 1 + 1 < w5.heap.size := (Array.getElem?_eq_some_iff.1 B4').1; have z5' : w.heap.size + 1 + 1 + 1 < w5.heap.size := (Array.getElem?_eq_some_iff.1 B5').1; replace B2' := Lib.hid B2'; replace B3' := Lib.hid B3'; replace B4' := Lib.hid B4'; replace B5' := Lib.hid B5'; replace hV5 := Lib.hid hV5; replace k5 := Lib.hid k5)
  have xr : RdN (fun g => N g ∨ w.heap.size + 4 ≤ g) w5 (.agg (rowD hv5 qv5 d')) d' := hV5.out.mono fun g hg => hg.elim Or.inl fun h => Or.inr (by have := hs4.out; omega)
  obtain ⟨u4, u5, uR⟩ := said_fin (bl := bl) (er := er) hN.out B4'.out B5'.out (ex_trans kk4.out k5.out) xr
  exact ret_rowRB Try.results15 Try.underlying32 rfl info_rdk rfl u4 Try.underlying39 rfl info_blk rfl u5 rfl rfl uR
end Go.Proofs.Ytdohohafdplkiaa
