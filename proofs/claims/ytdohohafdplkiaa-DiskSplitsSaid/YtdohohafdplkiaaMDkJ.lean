import Derived.Test.YtdohohafdplkiaaMDkH
import Derived.Lib.LazyBuf

/- Small ones: the clone of a row of bools, whether a row of numbers holds one. -/
set_option linter.unusedSimpArgs false
set_option linter.unusedVariables false
set_option maxRecDepth 20000
namespace Go.Proofs.Ytdohohafdplkiaa
open Go.RowKit
theorem own_emptyBo {w w' : World} {g : Nat} (k : Ex (w.alloc (.cells #[] 4)) w') (hg : g = w.heap.size) : w'.ownsRow w.heap.size 4 1 (.slice (some ⟨g, 0, none⟩) 0 0) 0 (([] : List Bool).flatMap KBo) := by
  subst hg
  exact owns_ex (owns_new (n := 0) (cap := 0) rfl (Nat.le_refl _) (by omega) (by decide) (by simp) (by simp)) k
set_option maxHeartbeats 1000000 in
theorem cloneBo_any (l : List Bool) (v : Value) (w : World) (hs : SlV1 KBo 1 w v l) (hl : l.length ≤ 1000000) :
    Calls Try.prog 32 #[v] w fun e w' => ∃ v', e = .returned v' ∧ OwnBo w' w.heap.size v' l ∧ Ex w w' := by
  obtain ⟨a, c, rfl, h1, h2, h3, h4⟩ := id hs.out
  have HS := Lib.hid h4
  unfold OwnBo
  clear hs h4
  cases a with
  | none =>
    obtain rfl := h3 rfl
    obtain rfl : l = [] := List.eq_nil_of_length_eq_zero (by omega)
    rw [List.length_nil]
    go_enter Try.func32, Try.ntmps32
    go_wp2
    go_ret
    exact ⟨_, rfl, owns_nil _ _ _ _, (by (try show Ex _ _); repeat (first | (with_reducible exact ex_refl _) | (with_reducible assumption) | (with_reducible refine ex_drewL ?_) | (with_reducible refine ex_appR ?_ _) | (with_reducible refine ex_wx ?_ _) | (with_reducible refine ex_drew ?_) | (with_reducible refine ex_alloc ?_ _)))⟩
  | some ad =>
    clear h3
    have hl1 : 0 + l.length ≤ maxLen := by unfold maxLen; omega
    have hl2 : (0 + l.length) * 1 ≤ 140737488355328 := by omega
    have hne : ∀ u ∈ l.flatMap KBo, u.oneCell' = true := KBo_one l
    have hfl : (l.flatMap KBo).length = l.length * 1 := flat_len KBo_len l
    go_enter Try.func32, Try.ntmps32
    go_wp2_with (at_builtin; refine wpApd (v := .slice (some ⟨w.heap.size, 0, none⟩) 0 0) (n := 0) (xs := ([] : List Bool).flatMap KBo) (B := w.heap.size) appBo _ _ rfl rfl (own_emptyBo (by (try show Ex _ _); repeat (first | (with_reducible exact ex_refl _) | (with_reducible assumption) | (with_reducible refine ex_drewL ?_) | (with_reducible refine ex_appR ?_ _) | (with_reducible refine ex_wx ?_ _) | (with_reducible refine ex_drew ?_) | (with_reducible refine ex_alloc ?_ _))) rfl) rfl ad l.length c (l.flatMap KBo) rfl hfl (SlR.news KBo_len (by omega) (HS.out.ex (by (try show Ex _ _); repeat (first | (with_reducible exact ex_refl _) | (with_reducible assumption) | (with_reducible refine ex_drewL ?_) | (with_reducible refine ex_appR ?_ _) | (with_reducible refine ex_wx ?_ _) | (with_reducible refine ex_drew ?_) | (with_reducible refine ex_alloc ?_ _))))) hne hl1 hl2 (ex_size (by (try show Ex _ _); repeat (first | (with_reducible exact ex_refl _) | (with_reducible assumption) | (with_reducible refine ex_drewL ?_) | (with_reducible refine ex_appR ?_ _) | (with_reducible refine ex_wx ?_ _) | (with_reducible refine ex_drew ?_) | (with_reducible refine ex_alloc ?_ _)))) (fun v1 w1 hown hA => ?_))
    go_ret
    rw [Nat.zero_add] at hown
    refine ⟨v1, rfl, by simpa using hown, ex_of_below ((ex_below (by (try show Ex _ _); repeat (first | (with_reducible exact ex_refl _) | (with_reducible assumption) | (with_reducible refine ex_drewL ?_) | (with_reducible refine ex_appR ?_ _) | (with_reducible refine ex_wx ?_ _) | (with_reducible refine ex_drew ?_) | (with_reducible refine ex_alloc ?_ _)))).trans (hA.below (ex_size (by (try show Ex _ _); repeat (first | (with_reducible exact ex_refl _) | (with_reducible assumption) | (with_reducible refine ex_drewL ?_) | (with_reducible refine ex_appR ?_ _) | (with_reducible refine ex_wx ?_ _) | (with_reducible refine ex_drew ?_) | (with_reducible refine ex_alloc ?_ _)))) fun g hg => ?_))⟩
    obtain rfl : w.heap.size = g := Option.some.inj hg
    exact Nat.le_refl _
theorem SlR.int {w : World} {a : Option Addr} {l : List Int} (h : SlR KZ 1 w a l) {k : Nat} (hk : k < l.length) : ∃ g off, a = some ⟨g, off, none⟩ ∧ g < w.heap.size ∧ w.cell? ⟨g, off + k, none⟩ = some (I l[k]) := by
  obtain ⟨g, off, h1, h2, h3⟩ := h.pos (by omega)
  refine ⟨g, off, h1, h2, ?_⟩
  have := (cellsN_some.1 (h3 k _ (List.getElem?_eq_getElem hk))).2 0 (by omega)
  rw [Nat.mul_one, Nat.add_zero] at this
  rw [this]; rfl
set_option maxHeartbeats 1000000 in
theorem index_any (l : List Int) (v : Value) (x : Int) (w : World) (hs : SlV1 KZ 1 w v l) :
    Calls Try.prog 53 #[v, I x] w fun e w' => ∃ r : Int, e = .returned (I r) ∧ -1 ≤ r ∧ r ≤ l.length ∧ (0 ≤ r ↔ x ∈ l) ∧ Ex w w' := by
  obtain ⟨a, c, rfl, h1, h2, h3, h4⟩ := hs.out
  have HR := Lib.hid h4
  unfold maxLen at h2
  clear hs h4 h3
  obtain ⟨m, hm⟩ : ∃ m, l.length = m := ⟨_, rfl⟩
  have HM := Lib.hid hm
  rw [hm] at h1 ⊢
  clear hm
  go_enter Try.func53, Try.ntmps53
  go_wp2
  go_loopw [8] (fun i W => ∃ k : Nat, k ≤ m ∧ i = I k ∧ W = w ∧ Hid (∀ j (hj : j < l.length), j < k → l[j] ≠ x)) (fun i _ => m - (intOf i).toNat)
  case atStart => exact ⟨0, by omega, rfl, rfl, Lib.hid fun j hj h0 => by omega⟩
  case round =>
    obtain ⟨k, hk, rfl, rfl, hO⟩ := hrel
    by_cases hlt : k < m
    · have hkl : k < l.length := by rw [HM.out]; exact hlt
      obtain ⟨g, off, rfl, hg, hc⟩ := HR.out.int hkl
      have hlt2 : (k : Int) < m := by omega
      obtain ⟨y, hy⟩ : ∃ y, l[k] = y := ⟨_, rfl⟩
      have HY := Lib.hid hy
      rw [hy] at hc
      clear hy
      by_cases hxy : x = y
      · subst hxy
        go_wp2
        go_ret
        exact ⟨k, rfl, by omega, by have := HM.out; omega, by have := HY.out ▸ List.getElem_mem hkl; simp [this], ex_refl _⟩
      · go_wp2
        refine ⟨⟨k + 1, by omega, by go_num, trivial, Lib.hid fun j hj hjk => ?_⟩, by simp [intOf]; omega⟩
        by_cases hjk2 : j < k
        · exact hO.out j hj hjk2
        · obtain rfl : j = k := by omega
          intro h
          exact hxy (h.symm.trans HY.out)
    · obtain rfl : k = m := by omega
      go_wp2
      go_ret
      refine ⟨-1, rfl, by omega, by have := HM.out; omega, ?_, ex_refl _⟩
      refine ⟨fun h => by omega, fun hm => ?_⟩
      obtain ⟨j, hj, he⟩ := List.getElem_of_mem hm
      exact absurd he (hO.out j hj (by have := HM.out; omega))
theorem contains_any (l : List Int) (v : Value) (x : Int) (w : World) (hs : SlV1 KZ 1 w v l) :
    Calls Try.prog 33 #[v, I x] w (Post w (.bool (decide (x ∈ l)))) := by
  go_enter Try.func33, Try.ntmps33
  go_wp2_with (go_at_call 53; (with_reducible refine (index_any l v x _ hs).mono ?_); rintro e w2 ⟨r, rfl, hr1, hr2, hr3, k2⟩)
  go_ret
  exact post_mk' (by simp [← hr3]) k2
end Go.Proofs.Ytdohohafdplkiaa

/- What one question does to a disk. -/
set_option linter.unusedSimpArgs false
set_option linter.unusedVariables false
set_option maxRecDepth 20000
namespace Go.Proofs.Ytdohohafdplkiaa
open Go.RowKit
theorem of_end {w w2 w3 : World} {L L' : Loc} {d' : Dk} {bb : Nat} (k2 : Ex w w2) (hbb : w.heap.size ≤ bb) (hb2 : w2.heap[bb]? = some (.cells (rowB 64 fun _ => 0) 39 (0, 0)))
    (hown : ∀ b, L.own b → b < w.heap.size) (hW : DkAt w3 L' d') (hD : Dv L w2 L' w3) :
    w3.heap[bb]? = some (.cells (rowB 64 fun _ => 0) 39 (0, 0)) ∧
    ∀ b : Bk, cellsN (w3.setCells bb 0 (rowB 64 (bkF b)).toList) bb 0 64 = some (rowB 64 (bkF b)) ∧ DkAt (w3.setCells bb 0 (rowB 64 (bkF b)).toList) L' d' ∧ Dv L w L' (w3.setCells bb 0 (rowB 64 (bkF b)).toList) := by
  have hz2 := (Array.getElem?_eq_some_iff.1 hb2).1
  have hn : ¬ L.own bb := fun e => by have := hown bb e; omega
  have hn' : ¬ L'.own bb := fun e => (hD.own e).elim hn fun h => by omega
  have hb3 := (hD.same bb hz2 hn).trans hb2
  refine ⟨hb3, fun b => ⟨?_, ?_, ?_⟩⟩
  · have := setCells_block bb 39 (0, 0) (rowB 64 (bkF b)).toList 0 w3 _ hb3
    rw [show spliceA (rowB 64 fun _ => 0) 0 (rowB 64 (bkF b)).toList = rowB 64 (bkF b) by rw [spliceA_all _ _ (by simp)]] at this
    exact (block_cells this (by simp)).1
  · obtain ⟨qv, hM⟩ := hW.out
    exact ⟨qv, hM.keep fun k hk => setCells_heap _ _ _ _ _ (fun e => hn' (e ▸ hk))⟩
  · exact ((Dv.ofEx k2).trans hD).frm ((Frm.refl (fun k => k = bb) w3).sets rfl _ _) (fun k hk => by omega)
set_option maxHeartbeats 1000000 in
theorem of0_any {w : World} {L : Loc} {d : Dk} (h : DkAt w L d) (a : Ak) (kv : Value) (h0 : a.kind = 0) (hn : a.n < 9223372036854775808) (hkv : kv.oneCell' = true) :
    Calls Try.prog 14 #[AV a kv, PT L.p] w (PostRd w L ((armD d a.n).1, zeroB, (armD d a.n).2)) := by
  unfold AV
  obtain ⟨kd, at', n, keep⟩ := a
  simp only at h0 hn ⊢
  subst h0
  obtain ⟨w2, hw2⟩ : ∃ w2, (w.alloc (.cells #[I 0, I at', I n, kv] 37)).alloc (.cells (rowB 64 fun _ => 0) 39) = w2 := ⟨_, rfl⟩
  have hs2 : w2.heap.size = w.heap.size + 2 := by rw [← hw2]; simp [go_sem]
  have hk2 : Ex w w2 := by rw [← hw2]; exact ex_alloc (ex_alloc (ex_refl _) _) _
  have hb2 : w2.heap[w.heap.size + 1]? = some (.cells (rowB 64 fun _ => 0) 39 (0, 0)) := by
    rw [← hw2]
    have := heap_alloc_new (w.alloc (.cells #[I 0, I at', I n, kv] 37)) (.cells (rowB 64 fun _ => 0) 39)
    simpa only [World.size_alloc] using this
  have HA := Lib.hid (arm_any (h.ex hk2) n hn)
  have HE := Lib.hid (fun w3 L' => of_end (w3 := w3) (L' := L') (d' := (armD d n).1) hk2 (Nat.le_succ _) hb2 fun b hb => h.lt hb)
  have hrow := Lib.hid zeroB_row
  generalize armD d n = r at *
  obtain ⟨d', er⟩ := r
  simp only at HA HE ⊢
  have Hw2 := Lib.hid hw2
  clear hw2 hb2 hk2 h hs2
  rw [← Hw2.out] at HA
  go_enter Try.func14, Try.ntmps14
  go_wp2_with (go_at_call 24; (with_reducible refine HA.out.mono ?_); rintro e w3 ⟨L', rfl, hW, hD⟩; obtain ⟨b3, HX⟩ := HE.out w3 L' hW (by rw [← Hw2.out]; exact hD); obtain ⟨n3, f3⟩ := block_cells (n := 64) b3 (by simp); replace HX := Lib.hid (HX zeroB); replace hW := Lib.hid hW; replace hD := Lib.hid hD; replace b3 := Lib.hid b3)
  rw [hrow.out] at HX
  obtain ⟨x1, x2, x3⟩ := HX.out
  refine ret_rowV Try.results14 Try.underlying39 rfl info_blk rfl x1 rfl rfl ⟨L', ?_, x2, x3⟩
  rw [hrow.out]; rfl
set_option maxHeartbeats 1000000 in
theorem of1_any {w : World} {L : Loc} {d : Dk} (h : DkAt w L d) (a : Ak) (kv : Value) (h0 : a.kind = 1) (hn : a.n < 9223372036854775808) (hkv : kv.oneCell' = true) :
    Calls Try.prog 14 #[AV a kv, PT L.p] w (PostRd w L ((failD d a.n).1, zeroB, (failD d a.n).2)) := by
  unfold AV
  obtain ⟨kd, at', n, keep⟩ := a
  simp only at h0 hn ⊢
  subst h0
  obtain ⟨w2, hw2⟩ : ∃ w2, (w.alloc (.cells #[I 1, I at', I n, kv] 37)).alloc (.cells (rowB 64 fun _ => 0) 39) = w2 := ⟨_, rfl⟩
  have hs2 : w2.heap.size = w.heap.size + 2 := by rw [← hw2]; simp [go_sem]
  have hk2 : Ex w w2 := by rw [← hw2]; exact ex_alloc (ex_alloc (ex_refl _) _) _
  have hb2 : w2.heap[w.heap.size + 1]? = some (.cells (rowB 64 fun _ => 0) 39 (0, 0)) := by
    rw [← hw2]
    have := heap_alloc_new (w.alloc (.cells #[I 1, I at', I n, kv] 37)) (.cells (rowB 64 fun _ => 0) 39)
    simpa only [World.size_alloc] using this
  have HA := Lib.hid (fail_any (h.ex hk2) n hn)
  have HE := Lib.hid (fun w3 L' => of_end (w3 := w3) (L' := L') (d' := (failD d n).1) hk2 (Nat.le_succ _) hb2 fun b hb => h.lt hb)
  have hrow := Lib.hid zeroB_row
  generalize failD d n = r at *
  obtain ⟨d', er⟩ := r
  simp only at HA HE ⊢
  have Hw2 := Lib.hid hw2
  clear hw2 hb2 hk2 h hs2
  rw [← Hw2.out] at HA
  go_enter Try.func14, Try.ntmps14
  go_wp2_with (go_at_call 20; (with_reducible refine HA.out.mono ?_); rintro e w3 ⟨L', rfl, hW, hD⟩; obtain ⟨b3, HX⟩ := HE.out w3 L' hW (by rw [← Hw2.out]; exact hD); obtain ⟨n3, f3⟩ := block_cells (n := 64) b3 (by simp); replace HX := Lib.hid (HX zeroB); replace hW := Lib.hid hW; replace hD := Lib.hid hD; replace b3 := Lib.hid b3)
  rw [hrow.out] at HX
  obtain ⟨x1, x2, x3⟩ := HX.out
  refine ret_rowV Try.results14 Try.underlying39 rfl info_blk rfl x1 rfl rfl ⟨L', ?_, x2, x3⟩
  rw [hrow.out]; rfl
set_option maxHeartbeats 1000000 in
theorem of3_any {w : World} {L : Loc} {d : Dk} (h : DkAt w L d) (a : Ak) (kv : Value) (h0 : a.kind = 3) (hops : d.ops < 1000000000) (hkv : kv.oneCell' = true) :
    Calls Try.prog 14 #[AV a kv, PT L.p] w (PostRd w L ((syncD d).1, zeroB, (syncD d).2)) := by
  unfold AV
  obtain ⟨kd, at', n, keep⟩ := a
  simp only at h0 ⊢
  subst h0
  obtain ⟨w2, hw2⟩ : ∃ w2, (w.alloc (.cells #[I 3, I at', I n, kv] 37)).alloc (.cells (rowB 64 fun _ => 0) 39) = w2 := ⟨_, rfl⟩
  have hs2 : w2.heap.size = w.heap.size + 2 := by rw [← hw2]; simp [go_sem]
  have hk2 : Ex w w2 := by rw [← hw2]; exact ex_alloc (ex_alloc (ex_refl _) _) _
  have hb2 : w2.heap[w.heap.size + 1]? = some (.cells (rowB 64 fun _ => 0) 39 (0, 0)) := by
    rw [← hw2]
    have := heap_alloc_new (w.alloc (.cells #[I 3, I at', I n, kv] 37)) (.cells (rowB 64 fun _ => 0) 39)
    simpa only [World.size_alloc] using this
  have HA := Lib.hid (sync_any (h.ex hk2) hops)
  have HE := Lib.hid (fun w3 L' => of_end (w3 := w3) (L' := L') (d' := (syncD d).1) hk2 (Nat.le_succ _) hb2 fun b hb => h.lt hb)
  have hrow := Lib.hid zeroB_row
  generalize syncD d = r at *
  obtain ⟨d', er⟩ := r
  simp only at HA HE ⊢
  have Hw2 := Lib.hid hw2
  clear hw2 hb2 hk2 h hs2
  rw [← Hw2.out] at HA
  go_enter Try.func14, Try.ntmps14
  go_wp2_with (go_at_call 28; (with_reducible refine HA.out.mono ?_); rintro e w3 ⟨L', rfl, hW, hD⟩; obtain ⟨b3, HX⟩ := HE.out w3 L' hW (by rw [← Hw2.out]; exact hD); obtain ⟨n3, f3⟩ := block_cells (n := 64) b3 (by simp); replace HX := Lib.hid (HX zeroB); replace hW := Lib.hid hW; replace hD := Lib.hid hD; replace b3 := Lib.hid b3)
  rw [hrow.out] at HX
  obtain ⟨x1, x2, x3⟩ := HX.out
  refine ret_rowV Try.results14 Try.underlying39 rfl info_blk rfl x1 rfl rfl ⟨L', ?_, x2, x3⟩
  rw [hrow.out]; rfl
set_option maxHeartbeats 1000000 in
theorem of4_any {w : World} {L : Loc} {d : Dk} (h : DkAt w L d) (a : Ak) (kv : Value) (h0 : a.kind = 4 ∨ a.kind = 5) (h1 : -9223372036854775808 ≤ a.at') (h2 : a.at' < 9223372036854775808) (hops : d.ops < 1000000000) (hkv : kv.oneCell' = true) :
    Calls Try.prog 14 #[AV a kv, PT L.p] w (PostRd w L (readD d a.at')) := by
  unfold AV
  obtain ⟨kd, at', n, keep⟩ := a
  simp only at h0 h1 h2 ⊢
  obtain ⟨w2, hw2⟩ : ∃ w2, (w.alloc (.cells #[I kd, I at', I n, kv] 37)).alloc (.cells (rowB 64 fun _ => 0) 39) = w2 := ⟨_, rfl⟩
  have hs2 : w2.heap.size = w.heap.size + 2 := by rw [← hw2]; simp [go_sem]
  have hk2 : Ex w w2 := by rw [← hw2]; exact ex_alloc (ex_alloc (ex_refl _) _) _
  have hb2 : w2.heap[w.heap.size + 1]? = some (.cells (rowB 64 fun _ => 0) 39 (0, 0)) := by
    rw [← hw2]
    have := heap_alloc_new (w.alloc (.cells #[I kd, I at', I n, kv] 37)) (.cells (rowB 64 fun _ => 0) 39)
    simpa only [World.size_alloc] using this
  have HA := Lib.hid (read_any (h.ex hk2) at' h1 h2 hops)
  have HE := Lib.hid (fun w3 L' => of_end (w3 := w3) (L' := L') (d' := (readD d at').1) hk2 (Nat.le_succ _) hb2 fun b hb => h.lt hb)
  have hrow := Lib.hid zeroB_row
  generalize readD d at' = r at *
  obtain ⟨d', bl, er⟩ := r
  simp only [PostRd] at HA HE ⊢
  have Hw2 := Lib.hid hw2
  clear hw2 hb2 hk2 h hs2
  rw [← Hw2.out] at HA
  rcases h0 with rfl | rfl
  all_goals (
    go_enter Try.func14, Try.ntmps14
    go_wp2_with (go_at_call 21; (with_reducible refine HA.out.mono ?_); rintro e w3 ⟨L', rfl, hW, hD⟩; obtain ⟨b3, HX⟩ := HE.out w3 L' hW (by rw [← Hw2.out]; exact hD); obtain ⟨n3, f3⟩ := block_cells (n := 64) b3 (by simp); replace HX := Lib.hid (HX bl); replace hW := Lib.hid hW; replace hD := Lib.hid hD; replace b3 := Lib.hid b3)
    obtain ⟨x1, x2, x3⟩ := HX.out
    refine ret_rowV Try.results14 Try.underlying39 rfl info_blk rfl x1 rfl rfl ⟨L', rfl, x2, x3⟩)
end Go.Proofs.Ytdohohafdplkiaa
