import Derived.Test.YtdohohafdplkiaaMDkUa

/- What one question does to no disk: nothing, it answers 1. -/
set_option linter.unusedSimpArgs false
set_option linter.unusedVariables false
set_option maxRecDepth 20000
namespace Go.Proofs.Ytdohohafdplkiaa
open Go.RowKit
theorem nil_end {w w2 w4 : World} {bb : Nat} (k2 : Ex w w2) (hbb : w.heap.size ≤ bb) (hb2 : w2.heap[bb]? = some (.cells (rowB 64 fun _ => 0) 39 (0, 0))) (k4 : Ex w2 w4) :
    (cellsN w4 bb 0 64 = some (rowB 64 fun _ => 0) ∧ frozenN w4 bb 0 64 = false ∧ bb < w4.heap.size) ∧
    ∀ b : Bk, cellsN (w4.setCells bb 0 (rowB 64 (bkF b)).toList) bb 0 64 = some (rowB 64 (bkF b)) ∧ Ex w (w4.setCells bb 0 (rowB 64 (bkF b)).toList) := by
  have hb3 := ex_block k4 hb2
  have hf := block_cells (n := 64) hb3 (by simp)
  refine ⟨⟨hf.1, hf.2, (Array.getElem?_eq_some_iff.1 hb3).1⟩, fun b => ⟨?_, ex_setCellsK (ex_trans k2 k4) hbb _ _⟩⟩
  · have := setCells_block bb 39 (0, 0) (rowB 64 (bkF b)).toList 0 w4 _ hb3
    rw [show spliceA (rowB 64 fun _ => 0) 0 (rowB 64 (bkF b)).toList = rowB 64 (bkF b) by rw [spliceA_all _ _ (by simp)]] at this
    exact (block_cells this (by simp)).1
theorem ownbo_one {w : World} {Z : Nat} {v : Value} {l : List Bool} (h : OwnBo w Z v l) : v.oneCell' = true := by
  have : SlV1 KBo 1 w v l := SlV1.of_own KBo_len (by omega) h
  obtain ⟨a, c, rfl, _⟩ := this.out
  rfl
set_option maxHeartbeats 1000000 in
theorem of0_nil {w : World} (a : Ak) (kv : Value) (h0 : a.kind = 0) (hkv : kv.oneCell' = true) :
    Calls Try.prog 14 #[AV a kv, .pointer none] w (Post w (.tuple #[.agg (rowB 64 (bkF zeroB)), I 1])) := by
  unfold AV
  obtain ⟨kd, at', n, keep⟩ := a
  simp only at h0 ⊢
  subst h0
  obtain ⟨w2, hw2⟩ : ∃ w2, (w.alloc (.cells #[I 0, I at', I n, kv] 37)).alloc (.cells (rowB 64 fun _ => 0) 39) = w2 := ⟨_, rfl⟩
  have hs2 : w2.heap.size = w.heap.size + 2 := by rw [← hw2]; simp [go_sem]
  have hk2 : Ex w w2 := by rw [← hw2]; exact ex_alloc (ex_alloc (ex_refl _) _) _
  have hb2 : w2.heap[w.heap.size + 1]? = some (.cells (rowB 64 fun _ => 0) 39 (0, 0)) := by
    rw [← hw2]
    have := heap_alloc_new (w.alloc (.cells #[I 0, I at', I n, kv] 37)) (.cells (rowB 64 fun _ => 0) 39)
    simpa only [World.size_alloc] using this
  have HE := Lib.hid (fun w4 (k4 : Ex w2 w4) => nil_end hk2 (Nat.le_succ _) hb2 k4)
  have hrow := Lib.hid zeroB_row
  have Hw2 := Lib.hid hw2
  clear hw2 hb2 hk2 hs2
  go_enter Try.func14, Try.ntmps14
  go_wp2_with (go_at_call 24; (with_reducible refine (arm_nil _ _).mono ?_); rintro e w3 ⟨rfl, k3⟩; obtain ⟨⟨n3, f3, z3⟩, HX⟩ := HE.out w3 (by rw [← Hw2.out]; exact k3); replace HX := Lib.hid (HX zeroB); replace k3 := Lib.hid k3)
  rw [hrow.out] at HX
  obtain ⟨x1, x2⟩ := HX.out
  refine ret_rowV Try.results14 Try.underlying39 rfl info_blk rfl x1 rfl rfl (post_mk' ?_ x2)
  rw [hrow.out]; rfl
set_option maxHeartbeats 1000000 in
theorem of1_nil {w : World} (a : Ak) (kv : Value) (h0 : a.kind = 1) (hkv : kv.oneCell' = true) :
    Calls Try.prog 14 #[AV a kv, .pointer none] w (Post w (.tuple #[.agg (rowB 64 (bkF zeroB)), I 1])) := by
  unfold AV
  obtain ⟨kd, at', n, keep⟩ := a
  simp only at h0 ⊢
  subst h0
  obtain ⟨w2, hw2⟩ : ∃ w2, (w.alloc (.cells #[I 1, I at', I n, kv] 37)).alloc (.cells (rowB 64 fun _ => 0) 39) = w2 := ⟨_, rfl⟩
  have hs2 : w2.heap.size = w.heap.size + 2 := by rw [← hw2]; simp [go_sem]
  have hk2 : Ex w w2 := by rw [← hw2]; exact ex_alloc (ex_alloc (ex_refl _) _) _
  have hb2 : w2.heap[w.heap.size + 1]? = some (.cells (rowB 64 fun _ => 0) 39 (0, 0)) := by
    rw [← hw2]
    have := heap_alloc_new (w.alloc (.cells #[I 1, I at', I n, kv] 37)) (.cells (rowB 64 fun _ => 0) 39)
    simpa only [World.size_alloc] using this
  have HE := Lib.hid (fun w4 (k4 : Ex w2 w4) => nil_end hk2 (Nat.le_succ _) hb2 k4)
  have hrow := Lib.hid zeroB_row
  have Hw2 := Lib.hid hw2
  clear hw2 hb2 hk2 hs2
  go_enter Try.func14, Try.ntmps14
  go_wp2_with (go_at_call 20; (with_reducible refine (fail_nil _ _).mono ?_); rintro e w3 ⟨rfl, k3⟩; obtain ⟨⟨n3, f3, z3⟩, HX⟩ := HE.out w3 (by rw [← Hw2.out]; exact k3); replace HX := Lib.hid (HX zeroB); replace k3 := Lib.hid k3)
  rw [hrow.out] at HX
  obtain ⟨x1, x2⟩ := HX.out
  refine ret_rowV Try.results14 Try.underlying39 rfl info_blk rfl x1 rfl rfl (post_mk' ?_ x2)
  rw [hrow.out]; rfl
set_option maxHeartbeats 1000000 in
theorem of3_nil {w : World} (a : Ak) (kv : Value) (h0 : a.kind = 3) (hkv : kv.oneCell' = true) :
    Calls Try.prog 14 #[AV a kv, .pointer none] w (Post w (.tuple #[.agg (rowB 64 (bkF zeroB)), I 1])) := by
  unfold AV
  obtain ⟨kd, at', n, keep⟩ := a
  simp only at h0 ⊢
  subst h0
  obtain ⟨w2, hw2⟩ : ∃ w2, (w.alloc (.cells #[I 3, I at', I n, kv] 37)).alloc (.cells (rowB 64 fun _ => 0) 39) = w2 := ⟨_, rfl⟩
  have hs2 : w2.heap.size = w.heap.size + 2 := by rw [← hw2]; simp [go_sem]
  have hk2 : Ex w w2 := by rw [← hw2]; exact ex_alloc (ex_alloc (ex_refl _) _) _
  have hb2 : w2.heap[w.heap.size + 1]? = some (.cells (rowB 64 fun _ => 0) 39 (0, 0)) := by
    rw [← hw2]
    have := heap_alloc_new (w.alloc (.cells #[I 3, I at', I n, kv] 37)) (.cells (rowB 64 fun _ => 0) 39)
    simpa only [World.size_alloc] using this
  have HE := Lib.hid (fun w4 (k4 : Ex w2 w4) => nil_end hk2 (Nat.le_succ _) hb2 k4)
  have hrow := Lib.hid zeroB_row
  have Hw2 := Lib.hid hw2
  clear hw2 hb2 hk2 hs2
  go_enter Try.func14, Try.ntmps14
  go_wp2_with (go_at_call 28; (with_reducible refine (sync_nil _).mono ?_); rintro e w3 ⟨rfl, k3⟩; obtain ⟨⟨n3, f3, z3⟩, HX⟩ := HE.out w3 (by rw [← Hw2.out]; exact k3); replace HX := Lib.hid (HX zeroB); replace k3 := Lib.hid k3)
  rw [hrow.out] at HX
  obtain ⟨x1, x2⟩ := HX.out
  refine ret_rowV Try.results14 Try.underlying39 rfl info_blk rfl x1 rfl rfl (post_mk' ?_ x2)
  rw [hrow.out]; rfl
set_option maxHeartbeats 1000000 in
theorem of4_nil {w : World} (a : Ak) (kv : Value) (h0 : a.kind = 4) (hkv : kv.oneCell' = true) :
    Calls Try.prog 14 #[AV a kv, .pointer none] w (Post w (.tuple #[.agg (rowB 64 (bkF zeroB)), I 1])) := by
  unfold AV
  obtain ⟨kd, at', n, keep⟩ := a
  simp only at h0 ⊢
  subst h0
  obtain ⟨w2, hw2⟩ : ∃ w2, (w.alloc (.cells #[I 4, I at', I n, kv] 37)).alloc (.cells (rowB 64 fun _ => 0) 39) = w2 := ⟨_, rfl⟩
  have hs2 : w2.heap.size = w.heap.size + 2 := by rw [← hw2]; simp [go_sem]
  have hk2 : Ex w w2 := by rw [← hw2]; exact ex_alloc (ex_alloc (ex_refl _) _) _
  have hb2 : w2.heap[w.heap.size + 1]? = some (.cells (rowB 64 fun _ => 0) 39 (0, 0)) := by
    rw [← hw2]
    have := heap_alloc_new (w.alloc (.cells #[I 4, I at', I n, kv] 37)) (.cells (rowB 64 fun _ => 0) 39)
    simpa only [World.size_alloc] using this
  have HE := Lib.hid (fun w4 (k4 : Ex w2 w4) => nil_end hk2 (Nat.le_succ _) hb2 k4)
  have hrow := Lib.hid zeroB_row
  have Hw2 := Lib.hid hw2
  clear hw2 hb2 hk2 hs2
  go_enter Try.func14, Try.ntmps14
  go_wp2_with (go_at_call 21; (with_reducible refine (read_nil _ _).mono ?_); rintro e w3 ⟨rfl, k3⟩; obtain ⟨⟨n3, f3, z3⟩, HX⟩ := HE.out w3 (by rw [← Hw2.out]; exact k3); replace HX := Lib.hid (HX zeroB); replace k3 := Lib.hid k3)
  obtain ⟨x1, x2⟩ := HX.out
  refine ret_rowV Try.results14 Try.underlying39 rfl info_blk rfl x1 rfl rfl (post_mk' rfl x2)
set_option maxHeartbeats 1000000 in
theorem of5_nil {w : World} (a : Ak) (kv : Value) (h0 : a.kind = 5) (hkv : kv.oneCell' = true) :
    Calls Try.prog 14 #[AV a kv, .pointer none] w (Post w (.tuple #[.agg (rowB 64 (bkF zeroB)), I 1])) := by
  unfold AV
  obtain ⟨kd, at', n, keep⟩ := a
  simp only at h0 ⊢
  subst h0
  obtain ⟨w2, hw2⟩ : ∃ w2, (w.alloc (.cells #[I 5, I at', I n, kv] 37)).alloc (.cells (rowB 64 fun _ => 0) 39) = w2 := ⟨_, rfl⟩
  have hs2 : w2.heap.size = w.heap.size + 2 := by rw [← hw2]; simp [go_sem]
  have hk2 : Ex w w2 := by rw [← hw2]; exact ex_alloc (ex_alloc (ex_refl _) _) _
  have hb2 : w2.heap[w.heap.size + 1]? = some (.cells (rowB 64 fun _ => 0) 39 (0, 0)) := by
    rw [← hw2]
    have := heap_alloc_new (w.alloc (.cells #[I 5, I at', I n, kv] 37)) (.cells (rowB 64 fun _ => 0) 39)
    simpa only [World.size_alloc] using this
  have HE := Lib.hid (fun w4 (k4 : Ex w2 w4) => nil_end hk2 (Nat.le_succ _) hb2 k4)
  have hrow := Lib.hid zeroB_row
  have Hw2 := Lib.hid hw2
  clear hw2 hb2 hk2 hs2
  go_enter Try.func14, Try.ntmps14
  go_wp2_with (go_at_call 21; (with_reducible refine (read_nil _ _).mono ?_); rintro e w3 ⟨rfl, k3⟩; obtain ⟨⟨n3, f3, z3⟩, HX⟩ := HE.out w3 (by rw [← Hw2.out]; exact k3); replace HX := Lib.hid (HX zeroB); replace k3 := Lib.hid k3)
  obtain ⟨x1, x2⟩ := HX.out
  refine ret_rowV Try.results14 Try.underlying39 rfl info_blk rfl x1 rfl rfl (post_mk' rfl x2)
set_option maxHeartbeats 1000000 in
theorem of2_nil {w : World} (a : Ak) (kv : Value) (h0 : a.kind = 2) (hs : SlV1 KBo 1 w kv a.keep) :
    Calls Try.prog 14 #[AV a kv, .pointer none] w (Post w (.tuple #[.agg (rowB 64 (bkF zeroB)), I 1])) := by
  unfold AV
  obtain ⟨kd, at', n, keep⟩ := a
  simp only at h0 ⊢
  subst h0
  obtain ⟨w2, hw2⟩ : ∃ w2, (w.alloc (.cells #[I 2, I at', I n, kv] 37)).alloc (.cells (rowB 64 fun _ => 0) 39) = w2 := ⟨_, rfl⟩
  have hs2 : w2.heap.size = w.heap.size + 2 := by rw [← hw2]; simp [go_sem]
  have hk2 : Ex w w2 := by rw [← hw2]; exact ex_alloc (ex_alloc (ex_refl _) _) _
  have hb2 : w2.heap[w.heap.size + 1]? = some (.cells (rowB 64 fun _ => 0) 39 (0, 0)) := by
    rw [← hw2]
    have := heap_alloc_new (w.alloc (.cells #[I 2, I at', I n, kv] 37)) (.cells (rowB 64 fun _ => 0) 39)
    simpa only [World.size_alloc] using this
  have HE := Lib.hid (fun w4 (k4 : Ex w2 w4) => nil_end hk2 (Nat.le_succ _) hb2 k4)
  have hrow := Lib.hid zeroB_row
  have Hw2 := Lib.hid hw2
  have hkv : kv.oneCell' = true := by obtain ⟨ka, kc, rfl, _⟩ := hs.out; rfl
  have HK := Lib.hid (keep_any ⟨2, at', n, keep⟩ kv w2 (hs.ex hk2))
  unfold AV at HK
  simp only at HK
  clear hw2 hb2 hk2 hs2 hs
  go_enter Try.func14, Try.ntmps14
  go_wp2_with (first | (go_at_call 34; rw [Hw2.out]; (with_reducible refine HK.out.mono ?_); rintro e w3 ⟨v3, rfl, hO3, k3⟩; have hv3 := ownbo_one hO3; clear hO3) | (go_at_call 18; (with_reducible refine (crash_nil _ _ hv3).mono ?_); rintro e w4 ⟨rfl, k4⟩; obtain ⟨⟨n3, f3, z3⟩, HX⟩ := HE.out w4 (ex_trans k3 k4); replace HX := Lib.hid (HX zeroB); replace k3 := Lib.hid k3; replace k4 := Lib.hid k4))
  rw [hrow.out] at HX
  obtain ⟨x1, x2⟩ := HX.out
  refine ret_rowV Try.results14 Try.underlying39 rfl info_blk rfl x1 rfl rfl (post_mk' ?_ x2)
  rw [hrow.out]; rfl
end Go.Proofs.Ytdohohafdplkiaa

/- What one question does to no disk: all of it. -/
set_option linter.unusedSimpArgs false
set_option linter.unusedVariables false
set_option maxRecDepth 20000
namespace Go.Proofs.Ytdohohafdplkiaa
open Go.RowKit
set_option maxHeartbeats 1000000 in
theorem of6_nil {w : World} (a : Ak) (kv : Value) (h0 : ¬ a.kind = 0 ∧ ¬ a.kind = 1 ∧ ¬ a.kind = 2 ∧ ¬ a.kind = 3 ∧ ¬ a.kind = 4 ∧ ¬ a.kind = 5) (hkv : kv.oneCell' = true) :
    Calls Try.prog 14 #[AV a kv, .pointer none] w (Post w (.tuple #[.agg (rowB 64 (bkF zeroB)), I 1])) := by
  unfold AV
  obtain ⟨kd, at', n, keep⟩ := a
  simp only at h0 ⊢
  obtain ⟨e0, e1, e2, e3, e4, e5⟩ := h0
  obtain ⟨w2, hw2⟩ : ∃ w2, (w.alloc (.cells #[I kd, I at', I n, kv] 37)).alloc (.cells (rowB 64 fun _ => 0) 39) = w2 := ⟨_, rfl⟩
  have hs2 : w2.heap.size = w.heap.size + 2 := by rw [← hw2]; simp [go_sem]
  have hk2 : Ex w w2 := by rw [← hw2]; exact ex_alloc (ex_alloc (ex_refl _) _) _
  have hb2 : w2.heap[w.heap.size + 1]? = some (.cells (rowB 64 fun _ => 0) 39 (0, 0)) := by
    rw [← hw2]
    have := heap_alloc_new (w.alloc (.cells #[I kd, I at', I n, kv] 37)) (.cells (rowB 64 fun _ => 0) 39)
    simpa only [World.size_alloc] using this
  have HE := Lib.hid (fun w4 (k4 : Ex w2 w4) => nil_end hk2 (Nat.le_succ _) hb2 k4)
  have hrow := Lib.hid zeroB_row
  have HK := Lib.hid (fun W => block_any ⟨kd, at', n, keep⟩ kv W hkv)
  obtain ⟨P, hP⟩ : ∃ P : Nat → Prop, P = fun k => k = w.heap.size + 1 := ⟨_, rfl⟩
  have p1 : ¬ P w.heap.size := by rw [hP]; intro e; omega
  have S3 : Hid (∀ w3, Ex w2 w3 → ∀ k, k < w2.heap.size → ¬ P k → w3.heap[k]? = w2.heap[k]?) := Lib.hid fun w3 k3 k hk _ => (ex_below k3).block k hk
  have S5 : Hid (∀ w4 : World, (∀ k, k < w2.heap.size → ¬ P k → w4.heap[k]? = w2.heap[k]?) → ∀ vs, ∀ k, k < w2.heap.size → ¬ P k → (w4.setCells (w.heap.size + 1) 0 vs).heap[k]? = w2.heap[k]?) := Lib.hid fun w4 hs vs k hk hn => (setCells_heap _ _ _ _ _ fun e => hn (by rw [hP]; exact e)).trans (hs k hk hn)
  have hra : w2.heap[w.heap.size]? = some (.cells #[I kd, I at', I n, kv] 37 (0, 0)) := by
    rw [← hw2]
    exact ex_block (ex_alloc (ex_refl _) _) (heap_alloc_new w _)
  have hc1 := cell_of_row w2 w.heap.size 1 _ _ _ hra
  have hcn : cellsN w2 w.heap.size 0 4 = some #[I kd, I at', I n, kv] := cellsN_some.2 ⟨rfl, fun j hj => by rw [Nat.zero_add]; exact cell_of_row w2 w.heap.size j _ _ _ hra⟩
  have hz0 : w.heap.size < w2.heap.size := by omega
  unfold AV at HK
  simp only at HK hc1 ⊢
  have Hw2 := Lib.hid hw2
  clear hw2 hb2 hk2 hs2 hP hra
  go_enter Try.func14, Try.ntmps14
  go_wp2
  rw [Hw2.out]
  refine wp_region_forkH (fun w' => ∃ X, w' = kp w2 P X) (.look 0 (.look 1 (.look 2 (.look 3 (.look 4 (.eff 5 (.eff 6 (.eff 7 (.look 8 .done))))))))) (⟨_, kp_of (fun _ _ _ => rfl)⟩) (by kernel_rfl) (by kernel_rfl) (fun _ _ d _ _ h => by cases d <;> exact h) ?_
  simp only [Fk.ops, nth]
  repeat (first | ((with_reducible refine wpForkH_look ?_); go_big_quiet_step (fail); (try (with_reducible refine wpQuiet_nil ?_))) | (with_reducible refine wpForkH_eff ?_) | ((with_reducible refine effH_F ?_ ?_); (focus rfl); go_simp) | ((with_reducible refine effH_T ?_ ?_); (focus rfl); (try dsimp only); go_wp2_with (first | (go_at_call 26; (with_reducible refine (HK.out _).mono ?_); rintro e w3 ⟨rfl, k3⟩; replace k3 := ex_trans (show Ex w2 _ from (by (try show Ex _ _); repeat (first | (with_reducible exact ex_refl _) | (with_reducible assumption) | (with_reducible refine ex_drewL ?_) | (with_reducible refine ex_appR ?_ _) | (with_reducible refine ex_wx ?_ _) | (with_reducible refine ex_drew ?_) | (with_reducible refine ex_alloc ?_ _)))) k3) | (go_at_call 25; (with_reducible refine (write_nil _ _ _).mono ?_); rintro e w4 ⟨rfl, k4⟩; replace k4 := ex_trans (show Ex w2 _ from (by (try show Ex _ _); repeat (first | (with_reducible exact ex_refl _) | (with_reducible assumption) | (with_reducible refine ex_drewL ?_) | (with_reducible refine ex_appR ?_ _) | (with_reducible refine ex_wx ?_ _) | (with_reducible refine ex_drew ?_) | (with_reducible refine ex_alloc ?_ _)))) k4; obtain ⟨⟨n3, f3, z3⟩, HX⟩ := HE.out w4 k4; replace HX := Lib.hid (HX zeroB))); refine mixQH_mk (⟨_, kp_of (by first | exact S5.out _ (S3.out _ k4) _ | exact S3.out _ k4 | exact S3.out _ k3)⟩) ?_))
  all_goals (with_reducible refine wpForkH_nil ?_)
  go_wp2
  rw [hrow.out] at HX
  obtain ⟨x1, x2⟩ := HX.out
  refine ret_rowV Try.results14 Try.underlying39 rfl info_blk rfl x1 rfl rfl (post_mk' ?_ x2)
  rw [hrow.out]; rfl
theorem of_nil {w : World} (a : Ak) (kv : Value) (hs : SlV1 KBo 1 w kv a.keep) :
    Calls Try.prog 14 #[AV a kv, .pointer none] w (Post w (.tuple #[.agg (rowB 64 (bkF zeroB)), I 1])) := by
  have hkv : kv.oneCell' = true := by obtain ⟨ka, kc, rfl, _⟩ := hs.out; rfl
  by_cases h0 : a.kind = 0
  · exact of0_nil a kv h0 hkv
  by_cases h1 : a.kind = 1
  · exact of1_nil a kv h1 hkv
  by_cases h2 : a.kind = 2
  · exact of2_nil a kv h2 hs
  by_cases h3 : a.kind = 3
  · exact of3_nil a kv h3 hkv
  by_cases h4 : a.kind = 4
  · exact of4_nil a kv h4 hkv
  by_cases h5 : a.kind = 5
  · exact of5_nil a kv h5 hkv
  · exact of6_nil a kv ⟨h0, h1, h2, h3, h4, h5⟩ hkv
end Go.Proofs.Ytdohohafdplkiaa
