import Derived.Test.YtdohohafdplkiaaMDkJ

/- What one question does to a disk: crash and write. -/
set_option linter.unusedSimpArgs false
set_option linter.unusedVariables false
set_option maxRecDepth 20000
namespace Go.Proofs.Ytdohohafdplkiaa
open Go.RowKit
set_option maxHeartbeats 1000000 in
theorem of2_any {w : World} {L : Loc} {d : Dk} (h : DkAt w L d) (a : Ak) (kv : Value) (h0 : a.kind = 2) (hs : SlV1 KBo 1 w kv a.keep) :
    Calls Try.prog 14 #[AV a kv, PT L.p] w (PostRd w L (crashD d (a.keep.take 100), zeroB, 0)) := by
  unfold AV
  obtain ⟨kd, at', n, keep⟩ := a
  simp only at h0 hs ⊢
  subst h0
  obtain ⟨w2, hw2⟩ : ∃ w2, (w.alloc (.cells #[I 2, I at', I n, kv] 37)).alloc (.cells (rowB 64 fun _ => 0) 39) = w2 := ⟨_, rfl⟩
  have hs2 : w2.heap.size = w.heap.size + 2 := by rw [← hw2]; simp [go_sem]
  have hk2 : Ex w w2 := by rw [← hw2]; exact ex_alloc (ex_alloc (ex_refl _) _) _
  have hb2 : w2.heap[w.heap.size + 1]? = some (.cells (rowB 64 fun _ => 0) 39 (0, 0)) := by
    rw [← hw2]
    have := heap_alloc_new (w.alloc (.cells #[I 2, I at', I n, kv] 37)) (.cells (rowB 64 fun _ => 0) 39)
    simpa only [World.size_alloc] using this
  have hkv : kv.oneCell' = true := by obtain ⟨ka, kc, rfl, _⟩ := hs.out; rfl
  have HK := Lib.hid (keep_any ⟨2, at', n, keep⟩ kv w2 (hs.ex hk2))
  have HC : Hid (∀ v w3, OwnBo w3 w2.heap.size v (keep.take 100) → Ex w2 w3 → Calls Try.prog 18 #[PT L.p, v] w3 (PostD w3 L (crashD d (keep.take 100)) (I 0))) := Lib.hid fun v w3 hO k3 => by
    refine crash_any (h.ex (ex_trans hk2 k3)) v (keep.take 100) (SlV1.of_own KBo_len (by omega) hO) fun g hg => ⟨fun e => ?_, (World.ownsRow.lt hO g hg).2⟩
    have := h.lt e
    have := (World.ownsRow.lt hO g hg).1
    omega
  have HE := Lib.hid (fun w3 w4 L' (k3 : Ex w2 w3) => of_end (w2 := w3) (w3 := w4) (L' := L') (d' := crashD d (keep.take 100)) (ex_trans hk2 k3) (Nat.le_succ _) (ex_block k3 hb2) fun b hb => h.lt hb)
  have hrow := Lib.hid zeroB_row
  generalize crashD d (keep.take 100) = d' at *
  unfold AV at HK
  simp only at HK ⊢
  have Hw2 := Lib.hid hw2
  clear hw2 hb2 hk2 h hs2 hs
  go_enter Try.func14, Try.ntmps14
  go_wp2_with (first | (go_at_call 34; rw [Hw2.out]; (with_reducible refine HK.out.mono ?_); rintro e w3 ⟨v3, rfl, hO3, k3⟩; replace HC := Lib.hid (HC.out v3 w3 hO3 k3); replace HE := Lib.hid fun w4 L' => HE.out w3 w4 L' k3; clear hO3) | (go_at_call 18; (with_reducible refine HC.out.mono ?_); rintro e w4 ⟨L', rfl, hW, hD⟩; obtain ⟨b3, HX⟩ := HE.out w4 L' hW hD; obtain ⟨n3, f3⟩ := block_cells (n := 64) b3 (by simp); replace HX := Lib.hid (HX zeroB); replace hW := Lib.hid hW; replace hD := Lib.hid hD; replace b3 := Lib.hid b3))
  rw [hrow.out] at HX
  obtain ⟨x1, x2, x3⟩ := HX.out
  refine ret_rowV Try.results14 Try.underlying39 rfl info_blk rfl x1 rfl rfl ⟨L', ?_, x2, x3⟩
  rw [hrow.out]; rfl
set_option maxHeartbeats 1000000 in
theorem of6_any {w : World} {L : Loc} {d : Dk} (h : DkAt w L d) (a : Ak) (kv : Value) (h0 : ¬ a.kind = 0 ∧ ¬ a.kind = 1 ∧ ¬ a.kind = 2 ∧ ¬ a.kind = 3 ∧ ¬ a.kind = 4 ∧ ¬ a.kind = 5) (h1 : -9223372036854775808 ≤ a.at') (h2 : a.at' < 9223372036854775808) (hops : d.ops < 1000000000) (hq : d.qu.length < 1000000) (hkv : kv.oneCell' = true) :
    Calls Try.prog 14 #[AV a kv, PT L.p] w (PostRd w L ((writeD d a.at' (blockA a.n)).1, zeroB, (writeD d a.at' (blockA a.n)).2)) := by
  unfold AV
  obtain ⟨kd, at', n, keep⟩ := a
  simp only at h0 h1 h2 ⊢
  obtain ⟨e0, e1, e2, e3, e4, e5⟩ := h0
  obtain ⟨w2, hw2⟩ : ∃ w2, (w.alloc (.cells #[I kd, I at', I n, kv] 37)).alloc (.cells (rowB 64 fun _ => 0) 39) = w2 := ⟨_, rfl⟩
  have hs2 : w2.heap.size = w.heap.size + 2 := by rw [← hw2]; simp [go_sem]
  have hk2 : Ex w w2 := by rw [← hw2]; exact ex_alloc (ex_alloc (ex_refl _) _) _
  have hb2 : w2.heap[w.heap.size + 1]? = some (.cells (rowB 64 fun _ => 0) 39 (0, 0)) := by
    rw [← hw2]
    have := heap_alloc_new (w.alloc (.cells #[I kd, I at', I n, kv] 37)) (.cells (rowB 64 fun _ => 0) 39)
    simpa only [World.size_alloc] using this
  have HK := Lib.hid (fun W => block_any ⟨kd, at', n, keep⟩ kv W hkv)
  have HC := Lib.hid fun w3 (k3 : Ex w2 w3) => write_any (h.ex (ex_trans hk2 k3)) at' (blockA n) h1 h2 hops hq
  have HE := Lib.hid (fun w3 w4 L' (k3 : Ex w2 w3) => of_end (w2 := w3) (w3 := w4) (L' := L') (d' := (writeD d at' (blockA n)).1) (ex_trans hk2 k3) (Nat.le_succ _) (ex_block k3 hb2) fun b hb => h.lt hb)
  have hrow := Lib.hid zeroB_row
  obtain ⟨P, hP⟩ : ∃ P : Nat → Prop, P = fun k => L.own k ∨ k = w.heap.size + 1 := ⟨_, rfl⟩
  have p1 : ¬ P w.heap.size := by rw [hP]; rintro (e | e); exact absurd (h.lt e) (by omega); omega
  have S3 : Hid (∀ w3, Ex w2 w3 → ∀ k, k < w2.heap.size → ¬ P k → w3.heap[k]? = w2.heap[k]?) := Lib.hid fun w3 k3 k hk _ => (ex_below k3).block k hk
  have S4 : Hid (∀ w3 w4 L', Ex w2 w3 → Dv L w3 L' w4 → ∀ k, k < w2.heap.size → ¬ P k → w4.heap[k]? = w2.heap[k]?) := Lib.hid fun w3 w4 L' k3 hD k hk hn => (hD.same k (Nat.lt_of_lt_of_le hk (ex_size k3)) fun e => hn (by rw [hP]; exact Or.inl e)).trans ((ex_below k3).block k hk)
  have S5 : Hid (∀ w4 : World, (∀ k, k < w2.heap.size → ¬ P k → w4.heap[k]? = w2.heap[k]?) → ∀ vs, ∀ k, k < w2.heap.size → ¬ P k → (w4.setCells (w.heap.size + 1) 0 vs).heap[k]? = w2.heap[k]?) := Lib.hid fun w4 hs vs k hk hn => (setCells_heap _ _ _ _ _ fun e => hn (by rw [hP]; exact Or.inr e)).trans (hs k hk hn)
  have hra : w2.heap[w.heap.size]? = some (.cells #[I kd, I at', I n, kv] 37 (0, 0)) := by
    rw [← hw2]
    exact ex_block (ex_alloc (ex_refl _) _) (heap_alloc_new w _)
  have hc1 := cell_of_row w2 w.heap.size 1 _ _ _ hra
  have hcn : cellsN w2 w.heap.size 0 4 = some #[I kd, I at', I n, kv] := cellsN_some.2 ⟨rfl, fun j hj => by rw [Nat.zero_add]; exact cell_of_row w2 w.heap.size j _ _ _ hra⟩
  have hz0 : w.heap.size < w2.heap.size := by omega
  generalize writeD d at' (blockA n) = r at *
  obtain ⟨d', er⟩ := r
  unfold AV at HK
  simp only at HK HC HE hc1 ⊢
  have Hw2 := Lib.hid hw2
  clear hw2 hb2 hk2 h hs2 hP hra
  go_enter Try.func14, Try.ntmps14
  go_wp2
  rw [Hw2.out]
  refine wp_region_forkH (fun w' => ∃ X, w' = kp w2 P X) (.look 0 (.look 1 (.look 2 (.look 3 (.look 4 (.eff 5 (.eff 6 (.eff 7 (.look 8 .done))))))))) (⟨_, kp_of (fun _ _ _ => rfl)⟩) (by kernel_rfl) (by kernel_rfl) (fun _ _ d _ _ h => by cases d <;> exact h) ?_
  simp only [Fk.ops, nth]
  repeat (first | ((with_reducible refine wpForkH_look ?_); go_big_quiet_step (fail); (try (with_reducible refine wpQuiet_nil ?_))) | (with_reducible refine wpForkH_eff ?_) | ((with_reducible refine effH_F ?_ ?_); (focus rfl); go_simp) | ((with_reducible refine effH_T ?_ ?_); (focus rfl); (try dsimp only); go_wp2_with (first | (go_at_call 26; (with_reducible refine (HK.out _).mono ?_); rintro e w3 ⟨rfl, k3⟩; replace k3 := ex_trans (show Ex w2 _ from (by (try show Ex _ _); repeat (first | (with_reducible exact ex_refl _) | (with_reducible assumption) | (with_reducible refine ex_drewL ?_) | (with_reducible refine ex_appR ?_ _) | (with_reducible refine ex_wx ?_ _) | (with_reducible refine ex_drew ?_) | (with_reducible refine ex_alloc ?_ _)))) k3) | (go_at_call 25; (with_reducible refine (HC.out _ (by (try show Ex _ _); repeat (first | (with_reducible exact ex_refl _) | (with_reducible assumption) | (with_reducible refine ex_drewL ?_) | (with_reducible refine ex_appR ?_ _) | (with_reducible refine ex_wx ?_ _) | (with_reducible refine ex_drew ?_) | (with_reducible refine ex_alloc ?_ _)))).mono ?_); rintro e w4 ⟨L', rfl, hW, hD⟩; obtain ⟨b3, HX⟩ := HE.out _ w4 L' (by (try show Ex _ _); repeat (first | (with_reducible exact ex_refl _) | (with_reducible assumption) | (with_reducible refine ex_drewL ?_) | (with_reducible refine ex_appR ?_ _) | (with_reducible refine ex_wx ?_ _) | (with_reducible refine ex_drew ?_) | (with_reducible refine ex_alloc ?_ _))) hW hD; obtain ⟨n3, f3⟩ := block_cells (n := 64) b3 (by simp); replace HX := Lib.hid (HX zeroB); replace hW := Lib.hid hW; have D4 := Lib.hid hD; replace b3 := Lib.hid b3)); refine mixQH_mk (⟨_, kp_of (by first | exact S5.out _ (S4.out _ _ _ k3 D4.out) _ | exact S4.out _ _ _ k3 D4.out | exact S3.out _ k3)⟩) ?_))
  all_goals (with_reducible refine wpForkH_nil ?_)
  go_wp2
  rw [hrow.out] at HX
  obtain ⟨x1, x2, x3⟩ := HX.out
  refine ret_rowV Try.results14 Try.underlying39 rfl info_blk rfl x1 rfl rfl ⟨L', ?_, x2, x3⟩
  rw [hrow.out]; rfl
end Go.Proofs.Ytdohohafdplkiaa

/- What one question does to a disk: all of it. -/
set_option linter.unusedSimpArgs false
set_option linter.unusedVariables false
set_option maxRecDepth 20000
namespace Go.Proofs.Ytdohohafdplkiaa
open Go.RowKit
/-- A question's numbers are numbers of the language. -/
structure AkB (a : Ak) : Prop where
  a1 : -9223372036854775808 ≤ a.at'
  a2 : a.at' < 9223372036854775808
  n2 : a.n < 9223372036854775808
  n1 : -9223372036854775808 ≤ a.n
theorem of_any {w : World} {L : Loc} {d : Dk} (h : DkAt w L d) (a : Ak) (kv : Value) (hs : SlV1 KBo 1 w kv a.keep) (hb : AkB a) (hops : d.ops < 1000000000) (hq : d.qu.length < 1000000) :
    Calls Try.prog 14 #[AV a kv, PT L.p] w (PostRd w L (askD a d)) := by
  have hkv : kv.oneCell' = true := by obtain ⟨ka, kc, rfl, _⟩ := hs.out; rfl
  unfold askD
  by_cases h0 : a.kind = 0
  · rw [if_pos h0]; exact of0_any h a kv h0 hb.n2 hkv
  by_cases h1 : a.kind = 1
  · rw [if_neg h0, if_pos h1]; exact of1_any h a kv h1 hb.n2 hkv
  by_cases h2 : a.kind = 2
  · rw [if_neg h0, if_neg h1, if_pos h2]; exact of2_any h a kv h2 hs
  by_cases h3 : a.kind = 3
  · rw [if_neg h0, if_neg h1, if_neg h2, if_pos h3]; exact of3_any h a kv h3 hops hkv
  by_cases h4 : a.kind = 4 ∨ a.kind = 5
  · rw [if_neg h0, if_neg h1, if_neg h2, if_neg h3, if_pos h4]; exact of4_any h a kv h4 hb.a1 hb.a2 hops hkv
  · rw [if_neg h0, if_neg h1, if_neg h2, if_neg h3, if_neg h4]
    exact of6_any h a kv ⟨h0, h1, h2, h3, fun e => h4 (Or.inl e), fun e => h4 (Or.inr e)⟩ hb.a1 hb.a2 hops hq hkv
end Go.Proofs.Ytdohohafdplkiaa
