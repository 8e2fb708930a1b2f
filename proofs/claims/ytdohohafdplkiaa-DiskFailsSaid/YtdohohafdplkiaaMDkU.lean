import Derived.Test.YtdohohafdplkiaaMDkJ

/- What one question does to a disk. -/
set_option linter.unusedSimpArgs false
set_option linter.unusedVariables false
set_option maxRecDepth 20000
namespace Go.Proofs.Ytdohohafdplkiaa
open Go.RowKit
theorem of_end {w w2 w3 : World} {L L' : Loc} {d' : Dk} {bb : Nat} (k2 : Ex w w2) (hbb : w.heap.size ≤ bb) (hb2 : w2.heap[bb]? = some (.cells (rowB 64 fun _ => 0) 39 (0, 0)))
    (hown : ∀ b, L.own b → b < w.heap.size) (hW : DkAt w3 L' d') (hD : Dv L w2 L' w3) :
    w3.heap[bb]? = some (.cells (rowB 64 fun _ => 0) 39 (0, 0)) ∧
    ∀ b : Bk, cellsN (w3.setCells bb 0 (rowB 64 (bkF b)).toList) bb 0 64 = some (rowB 64 (bkF b)) ∧ DkAt (w3.setCells bb 0 (rowB 64 (bkF b)).toList) L' d' ∧ Dv L w L' (w3.setCells bb 0 (rowB 64 (bkF b)).toList) := by
  have hz2 := (Array.getElem?_eq_some_iff.1 hb2).1
  have hn : ¬ L.own bb := fun e => by have := hown bb e; omega
  have hn' : ¬ L'.own bb := fun e => (hD.own e).elim hn fun h => by omega
  have hb3 := (hD.same bb hz2 hn).trans hb2
  refine ⟨hb3, fun b => ⟨?_, ?_, ?_⟩⟩
  · have := setCells_block bb 39 (0, 0) (rowB 64 (bkF b)).toList 0 w3 _ hb3
    rw [show spliceA (rowB 64 fun _ => 0) 0 (rowB 64 (bkF b)).toList = rowB 64 (bkF b) by rw [spliceA_all _ _ (by simp)]] at this
    exact (block_cells this (by simp)).1
  · obtain ⟨qv, hM⟩ := hW.out
    exact ⟨qv, hM.keep fun k hk => setCells_heap _ _ _ _ _ (fun e => hn' (e ▸ hk))⟩
  · exact ((Dv.ofEx k2).trans hD).frm ((Frm.refl (fun k => k = bb) w3).sets rfl _ _) (fun k hk => by omega)
set_option maxHeartbeats 1000000 in
theorem of0_any {w : World} {L : Loc} {d : Dk} (h : DkAt w L d) (a : Ak) (kv : Value) (h0 : a.kind = 0) (hn : a.n < 9223372036854775808) (hkv : kv.oneCell' = true) :
    Calls Try.prog 14 #[AV a kv, PT L.p] w (PostRd w L ((armD d a.n).1, zeroB, (armD d a.n).2)) := by
  unfold AV
  obtain ⟨kd, at', n, keep⟩ := a
  simp only at h0 hn ⊢
  subst h0
  obtain ⟨w2, hw2⟩ : ∃ w2, (w.alloc (.cells #[I 0, I at', I n, kv] 37)).alloc (.cells (rowB 64 fun _ => 0) 39) = w2 := ⟨_, rfl⟩
  have hs2 : w2.heap.size = w.heap.size + 2 := by rw [← hw2]; simp [go_sem]
  have hk2 : Ex w w2 := by rw [← hw2]; exact ex_alloc (ex_alloc (ex_refl _) _) _
  have hb2 : w2.heap[w.heap.size + 1]? = some (.cells (rowB 64 fun _ => 0) 39 (0, 0)) := by
    rw [← hw2]
    have := heap_alloc_new (w.alloc (.cells #[I 0, I at', I n, kv] 37)) (.cells (rowB 64 fun _ => 0) 39)
    simpa only [World.size_alloc] using this
  have HA := Lib.hid (arm_any (h.ex hk2) n hn)
  have HE := Lib.hid (fun w3 L' => of_end (w3 := w3) (L' := L') (d' := (armD d n).1) hk2 (Nat.le_succ _) hb2 fun b hb => h.lt hb)
  have hrow := Lib.hid zeroB_row
  generalize armD d n = r at *
  obtain ⟨d', er⟩ := r
  simp only at HA HE ⊢
  have Hw2 := Lib.hid hw2
  clear hw2 hb2 hk2 h hs2
  rw [← Hw2.out] at HA
  go_enter Try.func14, Try.ntmps14
  go_wp2_with (go_at_call 24; (with_reducible refine HA.out.mono ?_); rintro e w3 ⟨L', rfl, hW, hD⟩; obtain ⟨b3, HX⟩ := HE.out w3 L' hW (by rw [← Hw2.out]; exact hD); obtain ⟨n3, f3⟩ := block_cells (n := 64) b3 (by simp); replace HX := Lib.hid (HX zeroB); replace hW := Lib.hid hW; replace hD := Lib.hid hD; replace b3 := Lib.hid b3)
  rw [hrow.out] at HX
  obtain ⟨x1, x2, x3⟩ := HX.out
  refine ret_rowV Try.results14 Try.underlying39 rfl info_blk rfl x1 rfl rfl ⟨L', ?_, x2, x3⟩
  rw [hrow.out]; rfl
set_option maxHeartbeats 1000000 in
theorem of1_any {w : World} {L : Loc} {d : Dk} (h : DkAt w L d) (a : Ak) (kv : Value) (h0 : a.kind = 1) (hn : a.n < 9223372036854775808) (hkv : kv.oneCell' = true) :
    Calls Try.prog 14 #[AV a kv, PT L.p] w (PostRd w L ((failD d a.n).1, zeroB, (failD d a.n).2)) := by
  unfold AV
  obtain ⟨kd, at', n, keep⟩ := a
  simp only at h0 hn ⊢
  subst h0
  obtain ⟨w2, hw2⟩ : ∃ w2, (w.alloc (.cells #[I 1, I at', I n, kv] 37)).alloc (.cells (rowB 64 fun _ => 0) 39) = w2 := ⟨_, rfl⟩
  have hs2 : w2.heap.size = w.heap.size + 2 := by rw [← hw2]; simp [go_sem]
  have hk2 : Ex w w2 := by rw [← hw2]; exact ex_alloc (ex_alloc (ex_refl _) _) _
  have hb2 : w2.heap[w.heap.size + 1]? = some (.cells (rowB 64 fun _ => 0) 39 (0, 0)) := by
    rw [← hw2]
    have := heap_alloc_new (w.alloc (.cells #[I 1, I at', I n, kv] 37)) (.cells (rowB 64 fun _ => 0) 39)
    simpa only [World.size_alloc] using this
  have HA := Lib.hid (fail_any (h.ex hk2) n hn)
  have HE := Lib.hid (fun w3 L' => of_end (w3 := w3) (L' := L') (d' := (failD d n).1) hk2 (Nat.le_succ _) hb2 fun b hb => h.lt hb)
  have hrow := Lib.hid zeroB_row
  generalize failD d n = r at *
  obtain ⟨d', er⟩ := r
  simp only at HA HE ⊢
  have Hw2 := Lib.hid hw2
  clear hw2 hb2 hk2 h hs2
  rw [← Hw2.out] at HA
  go_enter Try.func14, Try.ntmps14
  go_wp2_with (go_at_call 20; (with_reducible refine HA.out.mono ?_); rintro e w3 ⟨L', rfl, hW, hD⟩; obtain ⟨b3, HX⟩ := HE.out w3 L' hW (by rw [← Hw2.out]; exact hD); obtain ⟨n3, f3⟩ := block_cells (n := 64) b3 (by simp); replace HX := Lib.hid (HX zeroB); replace hW := Lib.hid hW; replace hD := Lib.hid hD; replace b3 := Lib.hid b3)
  rw [hrow.out] at HX
  obtain ⟨x1, x2, x3⟩ := HX.out
  refine ret_rowV Try.results14 Try.underlying39 rfl info_blk rfl x1 rfl rfl ⟨L', ?_, x2, x3⟩
  rw [hrow.out]; rfl
set_option maxHeartbeats 1000000 in
theorem of3_any {w : World} {L : Loc} {d : Dk} (h : DkAt w L d) (a : Ak) (kv : Value) (h0 : a.kind = 3) (hops : d.ops < 1000000000) (hkv : kv.oneCell' = true) :
    Calls Try.prog 14 #[AV a kv, PT L.p] w (PostRd w L ((syncD d).1, zeroB, (syncD d).2)) := by
  unfold AV
  obtain ⟨kd, at', n, keep⟩ := a
  simp only at h0 ⊢
  subst h0
  obtain ⟨w2, hw2⟩ : ∃ w2, (w.alloc (.cells #[I 3, I at', I n, kv] 37)).alloc (.cells (rowB 64 fun _ => 0) 39) = w2 := ⟨_, rfl⟩
  have hs2 : w2.heap.size = w.heap.size + 2 := by rw [← hw2]; simp [go_sem]
  have hk2 : Ex w w2 := by rw [← hw2]; exact ex_alloc (ex_alloc (ex_refl _) _) _
  have hb2 : w2.heap[w.heap.size + 1]? = some (.cells (rowB 64 fun _ => 0) 39 (0, 0)) := by
    rw [← hw2]
    have := heap_alloc_new (w.alloc (.cells #[I 3, I at', I n, kv] 37)) (.cells (rowB 64 fun _ => 0) 39)
    simpa only [World.size_alloc] using this
  have HA := Lib.hid (sync_any (h.ex hk2) hops)
  have HE := Lib.hid (fun w3 L' => of_end (w3 := w3) (L' := L') (d' := (syncD d).1) hk2 (Nat.le_succ _) hb2 fun b hb => h.lt hb)
  have hrow := Lib.hid zeroB_row
  generalize syncD d = r at *
  obtain ⟨d', er⟩ := r
  simp only at HA HE ⊢
  have Hw2 := Lib.hid hw2
  clear hw2 hb2 hk2 h hs2
  rw [← Hw2.out] at HA
  go_enter Try.func14, Try.ntmps14
  go_wp2_with (go_at_call 28; (with_reducible refine HA.out.mono ?_); rintro e w3 ⟨L', rfl, hW, hD⟩; obtain ⟨b3, HX⟩ := HE.out w3 L' hW (by rw [← Hw2.out]; exact hD); obtain ⟨n3, f3⟩ := block_cells (n := 64) b3 (by simp); replace HX := Lib.hid (HX zeroB); replace hW := Lib.hid hW; replace hD := Lib.hid hD; replace b3 := Lib.hid b3)
  rw [hrow.out] at HX
  obtain ⟨x1, x2, x3⟩ := HX.out
  refine ret_rowV Try.results14 Try.underlying39 rfl info_blk rfl x1 rfl rfl ⟨L', ?_, x2, x3⟩
  rw [hrow.out]; rfl
set_option maxHeartbeats 1000000 in
theorem of4_any {w : World} {L : Loc} {d : Dk} (h : DkAt w L d) (a : Ak) (kv : Value) (h0 : a.kind = 4 ∨ a.kind = 5) (h1 : -9223372036854775808 ≤ a.at') (h2 : a.at' < 9223372036854775808) (hops : d.ops < 1000000000) (hkv : kv.oneCell' = true) :
    Calls Try.prog 14 #[AV a kv, PT L.p] w (PostRd w L (readD d a.at')) := by
  unfold AV
  obtain ⟨kd, at', n, keep⟩ := a
  simp only at h0 h1 h2 ⊢
  obtain ⟨w2, hw2⟩ : ∃ w2, (w.alloc (.cells #[I kd, I at', I n, kv] 37)).alloc (.cells (rowB 64 fun _ => 0) 39) = w2 := ⟨_, rfl⟩
  have hs2 : w2.heap.size = w.heap.size + 2 := by rw [← hw2]; simp [go_sem]
  have hk2 : Ex w w2 := by rw [← hw2]; exact ex_alloc (ex_alloc (ex_refl _) _) _
  have hb2 : w2.heap[w.heap.size + 1]? = some (.cells (rowB 64 fun _ => 0) 39 (0, 0)) := by
    rw [← hw2]
    have := heap_alloc_new (w.alloc (.cells #[I kd, I at', I n, kv] 37)) (.cells (rowB 64 fun _ => 0) 39)
    simpa only [World.size_alloc] using this
  have HA := Lib.hid (read_any (h.ex hk2) at' h1 h2 hops)
  have HE := Lib.hid (fun w3 L' => of_end (w3 := w3) (L' := L') (d' := (readD d at').1) hk2 (Nat.le_succ _) hb2 fun b hb => h.lt hb)
  have hrow := Lib.hid zeroB_row
  generalize readD d at' = r at *
  obtain ⟨d', bl, er⟩ := r
  simp only [PostRd] at HA HE ⊢
  have Hw2 := Lib.hid hw2
  clear hw2 hb2 hk2 h hs2
  rw [← Hw2.out] at HA
  rcases h0 with rfl | rfl
  all_goals (
    go_enter Try.func14, Try.ntmps14
    go_wp2_with (go_at_call 21; (with_reducible refine HA.out.mono ?_); rintro e w3 ⟨L', rfl, hW, hD⟩; obtain ⟨b3, HX⟩ := HE.out w3 L' hW (by rw [← Hw2.out]; exact hD); obtain ⟨n3, f3⟩ := block_cells (n := 64) b3 (by simp); replace HX := Lib.hid (HX bl); replace hW := Lib.hid hW; replace hD := Lib.hid hD; replace b3 := Lib.hid b3)
    obtain ⟨x1, x2, x3⟩ := HX.out
    refine ret_rowV Try.results14 Try.underlying39 rfl info_blk rfl x1 rfl rfl ⟨L', rfl, x2, x3⟩)
end Go.Proofs.Ytdohohafdplkiaa
