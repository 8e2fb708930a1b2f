import Derived.Test.YtdohohafdplkiaaMDkL

/- What is asked: the block, what is kept, the size. -/
set_option linter.unusedSimpArgs false
set_option linter.unusedVariables false
set_option maxRecDepth 20000
namespace Go.Proofs.Ytdohohafdplkiaa
open Go.RowKit
def sizeN (n : Int) : Nat := ((n % 18446744073709551616) % 20).toNat + 1
theorem sizeN_le (n : Int) : 1 ≤ sizeN n ∧ sizeN n ≤ 20 := by unfold sizeN; omega
theorem size_any (n : Int) (w : World) : Calls Try.prog 11 #[I n] w (Post w (I (sizeN n : Nat))) := by
  have hu : IntKind.u64.wrap n = n % 18446744073709551616 := by rw [IntKind.wrap_u64]
  obtain ⟨m, hm⟩ : ∃ m, n % 18446744073709551616 = m := ⟨_, rfl⟩
  have hm0 : 0 ≤ m ∧ m < 18446744073709551616 := by omega
  have ht : m.tmod 20 = m % 20 := Int.tmod_eq_emod_of_nonneg hm0.1
  have hs : (sizeN n : Int) = m % 20 + 1 := by unfold sizeN; rw [hm]; omega
  rw [hs]
  have hr : 0 ≤ m % 20 ∧ m % 20 < 20 := by omega
  generalize m % 20 = r at *
  rw [hm] at hu
  go_enter Try.func11, Try.ntmps11
  go_wp2
  go_ret
  exact post_mk' rfl (by (try show Ex _ _); repeat (first | (with_reducible exact ex_refl _) | (with_reducible assumption) | (with_reducible refine ex_drewL ?_) | (with_reducible refine ex_appR ?_ _) | (with_reducible refine ex_wx ?_ _) | (with_reducible refine ex_drew ?_) | (with_reducible refine ex_alloc ?_ _)))
theorem ex_setCellsK {A w : World} (k : Ex A w) {b : Nat} (hb : A.heap.size ≤ b) (o : Nat) (vs : List Value) : Ex A (w.setCells b o vs) :=
  ex_of_below ((ex_below k).trans (setCells_below hb vs o w))
/-- What is asked, as a value. -/
def AV (a : Ak) (kv : Value) : Value := .agg #[I a.kind, I a.at', I a.n, kv]
def blkF (n : Int) (k : Nat) : Nat → UInt8 := fun j => if j < k then bkF (blockA n) j else 0
theorem blkF_upd (n : Int) (k : Nat) : upd (blkF n k) k (bkF (blockA n) k) = blkF n (k + 1) := by
  funext j
  unfold upd blkF
  by_cases h : j = k
  · subst h; simp
  · by_cases h2 : j < k
    · simp [h, h2, show j < k + 1 by omega]
    · simp [h, h2, show ¬ j < k + 1 by omega]
theorem blockA_at (n : Int) {k : Nat} (hk : k < 64) : bn (bkF (blockA n) k) = (n % 256 + (k : Int) / 32) % 256 := by
  rw [show bkF (blockA n) k = UInt8.ofNat (n % 256).toNat + UInt8.ofNat (k / 32) from bkF_of _ k hk]
  unfold bn
  rw [UInt8.toNat_add, UInt8.toNat_ofNat', UInt8.toNat_ofNat']
  omega
set_option maxHeartbeats 1000000 in
theorem block_any (a : Ak) (kv : Value) (w : World) (hk1 : kv.oneCell' = true) : Calls Try.prog 26 #[AV a kv] w (Post w (.agg (rowB 64 (bkF (blockA a.n))))) := by
  unfold AV
  obtain ⟨kd, at', n, keep⟩ := a
  simp only
  obtain ⟨w2, hw2⟩ : ∃ w2, (w.alloc (.cells #[I kd, I at', I n, kv] 37)).alloc (.cells (rowB 64 fun _ => 0) 39) = w2 := ⟨_, rfl⟩
  have hs2 : w2.heap.size = w.heap.size + 2 := by rw [← hw2]; simp [go_sem]
  have hk2 : Ex w w2 := by rw [← hw2]; exact ex_alloc (ex_alloc (ex_refl _) _) _
  have hc2 : w2.cell? ⟨w.heap.size, 2, none⟩ = some (I n) := by rw [← hw2]; simp [go_sem]
  have hr2 := block_cells (n := 64) (show w2.heap[w.heap.size + 1]? = some (.cells (rowB 64 fun _ => 0) 39 (0, 0)) by
    rw [← hw2]
    have := heap_alloc_new (w.alloc (.cells #[I kd, I at', I n, kv] 37)) (.cells (rowB 64 fun _ => 0) 39)
    simpa only [World.size_alloc] using this) (by simp)
  obtain ⟨hr2, hf2⟩ := hr2
  have Hw2 := Lib.hid hw2
  clear hw2
  go_enter Try.func26, Try.ntmps26
  go_wp2
  rw [Hw2.out]
  have hbn : w.heap.size + 1 + 1 = w2.heap.size := by omega
  rw [hbn]
  go_loopw [5] (fun i W => ∃ k : Nat, k ≤ 64 ∧ i = I k ∧ W = w2.alloc (.cells (rowB 64 (blkF n k)) 39)) (fun i _ => 64 - (intOf i).toNat)
  case atStart => exact ⟨0, by omega, rfl, by congr 2⟩
  case round =>
    obtain ⟨k, hk, rfl, rfl⟩ := hrel
    replace hbn := Lib.hid hbn
    replace hs2 := Lib.hid hs2
    have hz1 : w.heap.size < w2.heap.size := by have := hs2.out; omega
    by_cases hlt : k < 64
    · have hlt2 : (k : Int) < 64 := by omega
      have hd : (k : Int).tdiv 32 = (k : Int) / 32 := Int.tdiv_eq_ediv_of_nonneg (by omega)
      have hv : (n + (k : Int) / 32) % 256 = bn (bkF (blockA n) k) := by rw [blockA_at n hlt]; omega
      go_wp2
      refine ⟨⟨k + 1, by omega, by go_num, ?_⟩, by simp [intOf]; omega⟩
      rw [blkF_upd]
    · obtain rfl : k = 64 := by omega
      have hz2 : w.heap.size + 1 < w2.heap.size := by have := hs2.out; omega
      have he : rowB 64 (blkF n 64) = rowB 64 (bkF (blockA n)) := rowB_congr fun i hi => by unfold blkF; rw [if_pos hi]
      rw [he]
      go_wp2
      have hb : ((w2.setCells (w.heap.size + 1) 0 (rowB 64 (bkF (blockA n))).toList).alloc (.cells (rowB 64 (bkF (blockA n))) 39)).heap[w.heap.size + 1]? = some (.cells (rowB 64 (bkF (blockA n))) 39 (0, 0)) := by
        refine ex_block (ex_alloc (ex_refl _) _) ?_
        have := setCells_block (w.heap.size + 1) 39 (0, 0) (rowB 64 (bkF (blockA n))).toList 0 w2 (rowB 64 fun _ => 0) (by
          rw [← Hw2.out]
          have := heap_alloc_new (w.alloc (.cells #[I kd, I at', I n, kv] 37)) (.cells (rowB 64 fun _ => 0) 39)
          simpa only [World.size_alloc] using this)
        rwa [show spliceA (rowB 64 fun _ => 0) 0 (rowB 64 (bkF (blockA n))).toList = rowB 64 (bkF (blockA n)) by rw [spliceA_all _ _ (by simp)]] at this
      refine ret_row Try.results26 Try.underlying39 rfl info_blk rfl (block_cells hb (by simp)).1 rfl (post_mk' rfl (ex_alloc (ex_setCellsK hk2 (by omega) _ _) _))
theorem appBo : AppT Try.prog 35 4 1 1 (.bool false) := ⟨Try.underlying35, by kernel_rfl, rfl, by decide⟩
theorem KBo_one (l : List Bool) : ∀ u ∈ l.flatMap KBo, u.oneCell' = true := by
  intro u hu
  obtain ⟨b, _, hb⟩ := List.mem_flatMap.1 hu
  rw [show KBo b = [.bool b] from rfl] at hb
  rw [List.mem_singleton.1 hb]
  rfl
def OwnBo (w : World) (Z : Nat) (v : Value) (l : List Bool) : Prop := w.ownsRow Z 4 1 v l.length (l.flatMap KBo)
set_option maxHeartbeats 1000000 in
theorem keep_any (a : Ak) (kv : Value) (w : World) (hs : SlV1 KBo 1 w kv a.keep) : Calls Try.prog 34 #[AV a kv] w fun e w' => ∃ v, e = .returned v ∧ OwnBo w' w.heap.size v (a.keep.take 100) ∧ Ex w w' := by
  unfold AV
  obtain ⟨kd, at', n, keep⟩ := a
  simp only at hs ⊢
  obtain ⟨ka, kc, rfl, h1, h2, h3, hr⟩ := hs.out
  have HR := Lib.hid hr
  obtain ⟨w2, hw2⟩ : ∃ w2, w.alloc (.cells #[I kd, I at', I n, .slice ka keep.length kc] 37) = w2 := ⟨_, rfl⟩
  have hk2 : Ex w w2 := by rw [← hw2]; exact ex_alloc (ex_refl _) _
  unfold maxLen at h2
  clear hs hr h3
  obtain ⟨m, hm⟩ : ∃ m, keep.length = m := ⟨_, rfl⟩
  have HM := Lib.hid hm
  rw [hm] at h1 hw2 ⊢
  clear hm
  have Hw2 := Lib.hid hw2
  clear hw2
  go_enter Try.func34, Try.ntmps34
  go_wp2
  rw [Hw2.out]
  go_loopw [3, 9] (fun v i W => ∃ k : Nat, k ≤ m ∧ i = I k ∧ Hid (OwnBo W w.heap.size v ((keep.take k).take 100)) ∧ Hid (Ex w W)) (fun _ i _ => m - (intOf i).toNat)
  case atStart => exact ⟨0, by omega, rfl, Lib.hid (owns_nil _ _ _ _), Lib.hid hk2⟩
  case round =>
    obtain ⟨k, hk, rfl, hO, hW⟩ := hrel
    by_cases hlt : k < m
    · obtain ⟨g, off, rfl, hg, hc⟩ := HR.out.bool (k := k) (by rw [HM.out]; exact hlt)
      have hc2 : wr.cell? ⟨g, off + k, none⟩ = some (.bool (keptL keep k)) := by
        have := (ex_below hW.out).cell (p := ⟨g, off + k, none⟩) hg
        rw [this]; exact hc
      have hgz := Nat.lt_of_lt_of_le hg (ex_size hW.out)
      have hlt2 : (k : Int) < m := by omega
      have hst : Hid ((keep.take (k + 1)).take 100 = if k < 100 then (keep.take k).take 100 ++ [keptL keep k] else (keep.take k).take 100) := Lib.hid (by
        have hkk : k < keep.length := by rw [HM.out]; exact hlt
        have he : keptL keep k = keep[k] := by unfold keptL; rw [List.getD_eq_getElem?_getD, List.getElem?_eq_getElem hkk]; rfl
        rw [List.take_take, List.take_take, he]
        split
        · rw [Nat.min_eq_right (by omega), Nat.min_eq_right (by omega), List.take_succ_eq_append_getElem hkk]
        · rw [Nat.min_eq_left (by omega), Nat.min_eq_left (by omega)])
      have hln : ((keep.take k).take 100).length ≤ 100 := by rw [List.length_take]; omega
      generalize (keep.take k).take 100 = l at *
      generalize keptL keep k = b at *
      clear hc
      have hsz := ex_size hW.out
      by_cases h100 : k < 100
      · have h101 : (k : Int) < 100 := by omega
        rw [if_pos h100] at hst
        have e1 : ([b].flatMap KBo).length = 1 * 1 := rfl
        have e2 : ∀ u ∈ [b].flatMap KBo, u.oneCell' = true := KBo_one _
        have e3 : l.length + 1 ≤ maxLen := by unfold maxLen; omega
        have e4 : (l.length + 1) * 1 ≤ 140737488355328 := by omega
        obtain ⟨va, vc, hvf, _⟩ := own_form hO.out
        subst hvf
        go_wp2_with (at_builtin; refine wpApd (v := .slice va l.length vc) (n := l.length) (xs := l.flatMap KBo) (B := w.heap.size) appBo _ _ rfl rfl (owns_ex hO.out (by (try show Ex _ _); repeat (first | (with_reducible exact ex_refl _) | (with_reducible assumption) | (with_reducible refine ex_drewL ?_) | (with_reducible refine ex_appR ?_ _) | (with_reducible refine ex_wx ?_ _) | (with_reducible refine ex_drew ?_) | (with_reducible refine ex_alloc ?_ _)))) rfl ⟨wr.heap.size, 0, none⟩ 1 1 ([b].flatMap KBo) rfl e1 (news_alloc (w := wr) (cs := #[.bool b]) (e := 4) rfl (by (try show Ex _ _); repeat (first | (with_reducible exact ex_refl _) | (with_reducible assumption) | (with_reducible refine ex_drewL ?_) | (with_reducible refine ex_appR ?_ _) | (with_reducible refine ex_wx ?_ _) | (with_reducible refine ex_drew ?_) | (with_reducible refine ex_alloc ?_ _)))) e2 e3 e4 (Nat.le_trans hsz (ex_size (by (try show Ex _ _); repeat (first | (with_reducible exact ex_refl _) | (with_reducible assumption) | (with_reducible refine ex_drewL ?_) | (with_reducible refine ex_appR ?_ _) | (with_reducible refine ex_wx ?_ _) | (with_reducible refine ex_drew ?_) | (with_reducible refine ex_alloc ?_ _))))) (fun v9 w9 hO9 hA9 => ?_); have k9 : Ex w w9 := ex_of_below ((ex_below (ex_trans hW.out (by (try show Ex _ _); repeat (first | (with_reducible exact ex_refl _) | (with_reducible assumption) | (with_reducible refine ex_drewL ?_) | (with_reducible refine ex_appR ?_ _) | (with_reducible refine ex_wx ?_ _) | (with_reducible refine ex_drew ?_) | (with_reducible refine ex_alloc ?_ _))))).trans (hA9.below (Nat.le_trans hsz (ex_size (by (try show Ex _ _); repeat (first | (with_reducible exact ex_refl _) | (with_reducible assumption) | (with_reducible refine ex_drewL ?_) | (with_reducible refine ex_appR ?_ _) | (with_reducible refine ex_wx ?_ _) | (with_reducible refine ex_drew ?_) | (with_reducible refine ex_alloc ?_ _))))) fun g hg => (World.ownsRow.lt hO.out g hg).1)); replace k9 := Lib.hid k9; replace hO9 := Lib.hid hO9; clear hA9)
        refine ⟨⟨k + 1, by omega, by go_num, Lib.hid ?_, k9⟩, by simp [intOf]; omega⟩
        rw [hst.out]
        unfold OwnBo
        rw [List.length_append, List.flatMap_append]
        exact hO9.out
      · have h101 : ¬ (k : Int) < 100 := by omega
        rw [if_neg h100] at hst
        go_wp2
        exact ⟨⟨k + 1, by omega, by go_num, by rw [hst.out]; exact hO, hW⟩, by simp [intOf]; omega⟩
    · obtain rfl : k = m := by omega
      have he : keep.take k = keep := List.take_of_length_le (by rw [HM.out]; exact Nat.le_refl _)
      rw [he] at hO
      clear he
      go_wp2
      go_ret
      exact ⟨_, rfl, hO.out, hW.out⟩
end Go.Proofs.Ytdohohafdplkiaa
