import Derived.Test.YtdohohafdplkiaaMDkDi

/- What is asked of the document's disk. -/
set_option linter.unusedSimpArgs false
set_option linter.unusedVariables false
set_option maxRecDepth 20000
namespace Go.Proofs.Ytdohohafdplkiaa
open Go.RowKit
def zDk : Array Value := #[.slice none 0 0, .slice none 0 0, .int .i64 0, .int .i64 0, .bool false, .int .i64 0]
def rowD (hv qv : Value) (d : Dk) : Array Value := #[hv, qv, I d.ar, I d.dm, .bool d.dark, I (d.ops : Nat)]
/-- The end: what is handed back. -/
theorem said_fin {N : Nat → Prop} {w W : World} {hv qv : Value} {d' : Dk} {bl : Bk} {er : Int} (hN : ∀ g, N g → g < w.heap.size) (G4 : W.heap[w.heap.size + 2]? = some (.cells zDk 32 (0, 0))) (G5 : W.heap[w.heap.size + 3]? = some (.cells (rowB 64 fun _ => 0) 39 (0, 0))) (k : Ex w W)
    (hR : RdN (fun g => N g ∨ w.heap.size + 4 ≤ g) W (.agg (rowD hv qv d')) d') :
    cellsN ((W.setCells (w.heap.size + 2) 0 (rowD hv qv d').toList).setCells (w.heap.size + 3) 0 (rowB 64 (bkF bl)).toList) (w.heap.size + 2) 0 6 = some (rowD hv qv d') ∧
    cellsN ((W.setCells (w.heap.size + 2) 0 (rowD hv qv d').toList).setCells (w.heap.size + 3) 0 (rowB 64 (bkF bl)).toList) (w.heap.size + 3) 0 64 = some (rowB 64 (bkF bl)) ∧
    PostNB N w (d', bl, er) (.returned (.tuple #[.agg (rowD hv qv d'), .agg (rowB 64 (bkF bl)), I er])) ((W.setCells (w.heap.size + 2) 0 (rowD hv qv d').toList).setCells (w.heap.size + 3) 0 (rowB 64 (bkF bl)).toList) := by
  obtain ⟨x4, x5, xk⟩ := res_end (w := w) (c4 := rowD hv qv d') (c5 := rowB 64 (bkF bl)) G4 G5 (by omega) (by omega) (by omega) k rfl (by simp)
  refine ⟨(block_cells x4 rfl).1, (block_cells x5 (by simp)).1, _, rfl, ?_, xk⟩
  refine (hR.keep (by rw [setCells_size, setCells_size]; exact Nat.le_refl _) fun g hg => ?_).mono fun g hg => hg.elim Or.inl fun h => Or.inr (by omega)
  have hg2 : g ≠ w.heap.size + 2 ∧ g ≠ w.heap.size + 3 := by
    rcases hg with h | h
    · have := hN g h; omega
    · omega
  rw [setCells_heap _ _ _ _ _ hg2.2, setCells_heap _ _ _ _ _ hg2.1]
theorem said_boxes {w w4 : World} {o1 o2 o3 o4 : Obj} (h : (((w.alloc o1).alloc o2).alloc o3).alloc o4 = w4) : w4.heap[w.heap.size]? = some o1 ∧ w4.heap[w.heap.size + 1]? = some o2 ∧ w4.heap[w.heap.size + 2]? = some o3 ∧ w4.heap[w.heap.size + 3]? = some o4 := by
  subst h
  have e2 := heap_alloc_new (w.alloc o1) o2
  have e3 := heap_alloc_new ((w.alloc o1).alloc o2) o3
  have e4 := heap_alloc_new (((w.alloc o1).alloc o2).alloc o3) o4
  simp only [World.size_alloc] at e2 e3 e4
  exact ⟨ex_block (ex_alloc (ex_alloc (ex_alloc (ex_refl _) _) _) _) (heap_alloc_new w o1), ex_block (ex_alloc (ex_alloc (ex_refl _) _) _) e2, ex_block (ex_alloc (ex_refl _) _) e3, e4⟩
attribute [local go_sem high] run_imax
set_option maxHeartbeats 2000000 in
theorem said0_any {N : Nat → Prop} {w : World} {v : Value} {d : Dk} (h : RdN N w v d) (hN : ∀ g, N g → g < w.heap.size) (a : Ak) {kv : Value} (hs : SlV1 KBo 1 w kv a.keep) (h0 : a.kind = 0) (hn : a.n < 9223372036854775808) (hn2 : -9223372036854775808 ≤ a.n) :
    Calls Try.prog 15 #[AV a kv, v] w (PostNB N w ((armD d a.n).1, zeroB, (armD d a.n).2)) := by
  obtain ⟨hv, qv, rfl, o1, o2, s1, s2, m1, m2⟩ := h.out
  have hkv : kv.oneCell' = true := hs.one
  unfold AV
  unfold armD
  obtain ⟨m, hm⟩ : ∃ m, max a.n (-1) = m := ⟨_, rfl⟩
  have him : imax a.n (-1) = m := by unfold imax; split <;> omega
  have hmb : -1 ≤ m ∧ m < 9223372036854775808 := by omega
  rw [hm]
  replace hm := Lib.hid hm
  replace h := Lib.hid h
  replace hs := Lib.hid hs
  replace s1 := Lib.hid s1
  replace s2 := Lib.hid s2
  replace m1 := Lib.hid m1
  replace m2 := Lib.hid m2
  replace hN := Lib.hid hN
  have hz := Lib.hid zeroB_row
  by_cases hd : d.dark = true
  · rw [if_pos hd]
    go_enter Try.func15, Try.ntmps15
    go_wp2
    refine ret_rowRB (cs := #[hv, qv, I (d.ar), I (d.dm), .bool true, I (d.ops : Nat)]) (cs2 := rowB 64 (bkF zeroB)) Try.results15 Try.underlying32 rfl info_rdk rfl (by simp [go_sem]) Try.underlying39 rfl info_blk rfl (by rw [zeroB_row]; simp [go_sem]) rfl rfl ⟨.agg (rowD hv qv d), ?_, ?_, (by (try show Ex _ _); repeat (first | (with_reducible exact ex_refl _) | (with_reducible assumption) | (with_reducible refine ex_drewL ?_) | (with_reducible refine ex_appR ?_ _) | (with_reducible refine ex_wx ?_ _) | (with_reducible refine ex_drew ?_) | (with_reducible refine ex_alloc ?_ _)))⟩
    · simp [rowD, hd]
    · exact RdN.mkG (d := d) (SlV1.ex (l := (d : Dk).has) s1.out (by (try show Ex _ _); repeat (first | (with_reducible exact ex_refl _) | (with_reducible assumption) | (with_reducible refine ex_drewL ?_) | (with_reducible refine ex_appR ?_ _) | (with_reducible refine ex_wx ?_ _) | (with_reducible refine ex_drew ?_) | (with_reducible refine ex_alloc ?_ _)))) (SlV1.ex (l := (d : Dk).qu) s2.out (by (try show Ex _ _); repeat (first | (with_reducible exact ex_refl _) | (with_reducible assumption) | (with_reducible refine ex_drewL ?_) | (with_reducible refine ex_appR ?_ _) | (with_reducible refine ex_wx ?_ _) | (with_reducible refine ex_drew ?_) | (with_reducible refine ex_alloc ?_ _)))) (fun e g hg => Or.inl (m1.out e g hg)) (fun e g hg => Or.inl (m2.out e g hg))
  · rw [if_neg hd]
    replace hd : d.dark = false := by simpa using hd
    go_enter Try.func15, Try.ntmps15
    go_wp2
    refine ret_rowRB (cs := #[hv, qv, I (m), I (d.dm), .bool false, I (d.ops : Nat)]) (cs2 := rowB 64 (bkF zeroB)) Try.results15 Try.underlying32 rfl info_rdk rfl (by simp [go_sem]) Try.underlying39 rfl info_blk rfl (by rw [zeroB_row]; simp [go_sem]) rfl rfl ⟨.agg (rowD hv qv { d with ar := m }), ?_, ?_, (by (try show Ex _ _); repeat (first | (with_reducible exact ex_refl _) | (with_reducible assumption) | (with_reducible refine ex_drewL ?_) | (with_reducible refine ex_appR ?_ _) | (with_reducible refine ex_wx ?_ _) | (with_reducible refine ex_drew ?_) | (with_reducible refine ex_alloc ?_ _)))⟩
    · simp [rowD, hd]
    · exact RdN.mkG (d := { d with ar := m }) (SlV1.ex (l := ({ d with ar := m } : Dk).has) s1.out (by (try show Ex _ _); repeat (first | (with_reducible exact ex_refl _) | (with_reducible assumption) | (with_reducible refine ex_drewL ?_) | (with_reducible refine ex_appR ?_ _) | (with_reducible refine ex_wx ?_ _) | (with_reducible refine ex_drew ?_) | (with_reducible refine ex_alloc ?_ _)))) (SlV1.ex (l := ({ d with ar := m } : Dk).qu) s2.out (by (try show Ex _ _); repeat (first | (with_reducible exact ex_refl _) | (with_reducible assumption) | (with_reducible refine ex_drewL ?_) | (with_reducible refine ex_appR ?_ _) | (with_reducible refine ex_wx ?_ _) | (with_reducible refine ex_drew ?_) | (with_reducible refine ex_alloc ?_ _)))) (fun e g hg => Or.inl (m1.out e g hg)) (fun e g hg => Or.inl (m2.out e g hg))
set_option maxHeartbeats 2000000 in
theorem said1_any {N : Nat → Prop} {w : World} {v : Value} {d : Dk} (h : RdN N w v d) (hN : ∀ g, N g → g < w.heap.size) (a : Ak) {kv : Value} (hs : SlV1 KBo 1 w kv a.keep) (h0 : a.kind = 1) (hn : a.n < 9223372036854775808) (hn2 : -9223372036854775808 ≤ a.n) :
    Calls Try.prog 15 #[AV a kv, v] w (PostNB N w ((failD d a.n).1, zeroB, (failD d a.n).2)) := by
  obtain ⟨hv, qv, rfl, o1, o2, s1, s2, m1, m2⟩ := h.out
  have hkv : kv.oneCell' = true := hs.one
  unfold AV
  unfold failD
  obtain ⟨m, hm⟩ : ∃ m, max a.n (-1) = m := ⟨_, rfl⟩
  have him : imax a.n (-1) = m := by unfold imax; split <;> omega
  have hmb : -1 ≤ m ∧ m < 9223372036854775808 := by omega
  rw [hm]
  replace hm := Lib.hid hm
  replace h := Lib.hid h
  replace hs := Lib.hid hs
  replace s1 := Lib.hid s1
  replace s2 := Lib.hid s2
  replace m1 := Lib.hid m1
  replace m2 := Lib.hid m2
  replace hN := Lib.hid hN
  have hz := Lib.hid zeroB_row
  by_cases hd : d.dark = true
  · rw [if_pos hd]
    go_enter Try.func15, Try.ntmps15
    go_wp2
    refine ret_rowRB (cs := #[hv, qv, I (d.ar), I (d.dm), .bool true, I (d.ops : Nat)]) (cs2 := rowB 64 (bkF zeroB)) Try.results15 Try.underlying32 rfl info_rdk rfl (by simp [go_sem]) Try.underlying39 rfl info_blk rfl (by rw [zeroB_row]; simp [go_sem]) rfl rfl ⟨.agg (rowD hv qv d), ?_, ?_, (by (try show Ex _ _); repeat (first | (with_reducible exact ex_refl _) | (with_reducible assumption) | (with_reducible refine ex_drewL ?_) | (with_reducible refine ex_appR ?_ _) | (with_reducible refine ex_wx ?_ _) | (with_reducible refine ex_drew ?_) | (with_reducible refine ex_alloc ?_ _)))⟩
    · simp [rowD, hd]
    · exact RdN.mkG (d := d) (SlV1.ex (l := (d : Dk).has) s1.out (by (try show Ex _ _); repeat (first | (with_reducible exact ex_refl _) | (with_reducible assumption) | (with_reducible refine ex_drewL ?_) | (with_reducible refine ex_appR ?_ _) | (with_reducible refine ex_wx ?_ _) | (with_reducible refine ex_drew ?_) | (with_reducible refine ex_alloc ?_ _)))) (SlV1.ex (l := (d : Dk).qu) s2.out (by (try show Ex _ _); repeat (first | (with_reducible exact ex_refl _) | (with_reducible assumption) | (with_reducible refine ex_drewL ?_) | (with_reducible refine ex_appR ?_ _) | (with_reducible refine ex_wx ?_ _) | (with_reducible refine ex_drew ?_) | (with_reducible refine ex_alloc ?_ _)))) (fun e g hg => Or.inl (m1.out e g hg)) (fun e g hg => Or.inl (m2.out e g hg))
  · rw [if_neg hd]
    replace hd : d.dark = false := by simpa using hd
    go_enter Try.func15, Try.ntmps15
    go_wp2
    refine ret_rowRB (cs := #[hv, qv, I (d.ar), I (m), .bool false, I (d.ops : Nat)]) (cs2 := rowB 64 (bkF zeroB)) Try.results15 Try.underlying32 rfl info_rdk rfl (by simp [go_sem]) Try.underlying39 rfl info_blk rfl (by rw [zeroB_row]; simp [go_sem]) rfl rfl ⟨.agg (rowD hv qv { d with dm := m }), ?_, ?_, (by (try show Ex _ _); repeat (first | (with_reducible exact ex_refl _) | (with_reducible assumption) | (with_reducible refine ex_drewL ?_) | (with_reducible refine ex_appR ?_ _) | (with_reducible refine ex_wx ?_ _) | (with_reducible refine ex_drew ?_) | (with_reducible refine ex_alloc ?_ _)))⟩
    · simp [rowD, hd]
    · exact RdN.mkG (d := { d with dm := m }) (SlV1.ex (l := ({ d with dm := m } : Dk).has) s1.out (by (try show Ex _ _); repeat (first | (with_reducible exact ex_refl _) | (with_reducible assumption) | (with_reducible refine ex_drewL ?_) | (with_reducible refine ex_appR ?_ _) | (with_reducible refine ex_wx ?_ _) | (with_reducible refine ex_drew ?_) | (with_reducible refine ex_alloc ?_ _)))) (SlV1.ex (l := ({ d with dm := m } : Dk).qu) s2.out (by (try show Ex _ _); repeat (first | (with_reducible exact ex_refl _) | (with_reducible assumption) | (with_reducible refine ex_drewL ?_) | (with_reducible refine ex_appR ?_ _) | (with_reducible refine ex_wx ?_ _) | (with_reducible refine ex_drew ?_) | (with_reducible refine ex_alloc ?_ _)))) (fun e g hg => Or.inl (m1.out e g hg)) (fun e g hg => Or.inl (m2.out e g hg))
end Go.Proofs.Ytdohohafdplkiaa
