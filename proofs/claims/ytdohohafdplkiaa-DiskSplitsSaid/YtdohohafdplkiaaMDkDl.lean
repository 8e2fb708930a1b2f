import Derived.Test.YtdohohafdplkiaaMDkDk

/- What is asked of the document's disk: Crash, Write; all of it. -/
set_option linter.unusedSimpArgs false
set_option linter.unusedVariables false
set_option maxRecDepth 20000
namespace Go.Proofs.Ytdohohafdplkiaa
open Go.RowKit
theorem ownbo_read' {w : World} {Z : Nat} {v : Value} {l : List Bool} (h : OwnBo w Z v l) : SlV1 KBo 1 w v l := SlV1.of_own KBo_len (by omega) h
set_option maxHeartbeats 3000000 in
theorem said2_any {N : Nat → Prop} {w : World} {v : Value} {d : Dk} (h : RdN N w v d) (hN : ∀ g, N g → g < w.heap.size) (hok : DkOk d) (at' n : Int) {kv : Value} {keep : List Bool} (hs : SlV1 KBo 1 w kv keep) :
    Calls Try.prog 15 #[.agg #[I 2, I at', I n, kv], v] w (PostNB N w (crashD d (keep.take 100), zeroB, 0)) := by
  obtain ⟨hv, qv, rfl, o1, o2, s1, s2, m1, m2⟩ := h.out
  have hkv : kv.oneCell' = true := hs.one
  obtain ⟨w4, hw4⟩ : ∃ w4, (((w.alloc (.cells #[I 2, I at', I n, kv] 37)).alloc (.cells #[hv, qv, I d.ar, I d.dm, .bool d.dark, I (d.ops : Nat)] 32)).alloc (.cells #[.slice none 0 0, .slice none 0 0, .int .i64 0, .int .i64 0, .bool false, .int .i64 0] 32)).alloc (.cells (rowB 64 fun _ => 0) 39) = w4 := ⟨_, rfl⟩
  have k4 : Ex w w4 := by rw [← hw4]; exact ex_alloc (ex_alloc (ex_alloc (ex_alloc (ex_refl _) _) _) _) _
  have hs4 : Hid (w4.heap.size = w.heap.size + 4) := Lib.hid (by rw [← hw4]; simp [go_sem])
  have HM := Lib.hid (fun w5 hv5 qv5 d' => said_mid (N := N) (w := w) (hv := hv) (qv := qv) (d := d) (w5 := w5) (hv5 := hv5) (qv5 := qv5) (d' := d') hN hw4)
  have HB := Lib.hid (fun w5 (k : Ex w4 w5) => (let B := said_boxes hw4; (⟨ex_block k B.1, ex_block k B.2.1, ex_block k B.2.2.1, ex_block k B.2.2.2⟩ : _ ∧ _ ∧ _ ∧ _)))
  have hN4 : ∀ g, N g → g < w4.heap.size := fun g hg => Nat.lt_of_lt_of_le (hN g hg) (ex_size k4)
  have hz := Lib.hid zeroB_row
  have HKp := Lib.hid (fun W (k : Ex w W) => keep_any ⟨2, at', n, keep⟩ kv W (hs.ex k))
  have HCr := Lib.hid (fun W kv' (k : Ex w W) (hs' : SlV1 KBo 1 W kv' (keep.take 100)) => crash_doc (h.ex k) hok hs')
  generalize crashD d (keep.take 100) = d' at *
  unfold AV at HKp
  simp only at HKp
  obtain ⟨B2, B3, B4, B5⟩ := HB.out _ (ex_refl w4)
  obtain ⟨c0, f0⟩ := block_cell (o := 0) B2 rfl
  obtain ⟨n2, f2⟩ := block_cells (n := 4) B2 rfl
  obtain ⟨n3, f3⟩ := block_cells (n := 6) B3 rfl
  have z2 := (Array.getElem?_eq_some_iff.1 B2).1
  have z3 := (Array.getElem?_eq_some_iff.1 B3).1
  clear B2 B3 B4 B5
  replace hw4 := Lib.hid hw4
  replace h := Lib.hid h
  replace hs := Lib.hid hs
  replace s1 := Lib.hid s1
  replace s2 := Lib.hid s2
  replace m1 := Lib.hid m1
  replace m2 := Lib.hid m2
  replace hN := Lib.hid hN
  replace hN4 := Lib.hid hN4
  replace hok := Lib.hid hok
  have kk4 := Lib.hid k4
  obtain ⟨P, hP⟩ : ∃ P : Nat → Prop, P = fun k => k = w.heap.size + 1 := ⟨_, rfl⟩
  have p2 : ¬ P w.heap.size := by rw [hP]; omega
  have S3 : Hid (∀ W, Ex w4 W → ∀ k, k < w4.heap.size → ¬ P k → W.heap[k]? = w4.heap[k]?) := Lib.hid fun W k => kps_of k
  have S4 : Hid (∀ W vs, Ex w4 W → ∀ k, k < w4.heap.size → ¬ P k → (W.setCells (w.heap.size + 1) 0 vs).heap[k]? = w4.heap[k]?) := Lib.hid fun W vs k => kps_sets (by rw [hP]) _ _ (kps_of k)
  clear hP
  go_enter Try.func15, Try.ntmps15
  go_wp2
  rw [hw4.out]
  clear c0 f0
  have tokS : True := trivial
  refine wp_region_forkH (fun w' => ∃ X, w' = kp w4 P X) (.look 1 (.fork 0 (.eff 2 (.eff 3 (.eff 4 .done))) 2 (.eff 0 (.eff 3 (.eff 4 .done))))) (⟨_, kp_of (fun _ _ _ => rfl)⟩) (by kernel_rfl) (by kernel_rfl) (fun _ _ d _ _ h => by cases d <;> exact h) ?_
  simp only [Fk.ops, nth]
  repeat (first | ((with_reducible refine wpForkH_look ?_); go_big_quiet_step (fail); (try (with_reducible refine wpQuiet_nil ?_))) | (with_reducible refine wpForkH_eff ?_) | ((with_reducible refine effH_F ?_ ?_); (focus rfl); go_simp) | ((with_reducible refine effH_T ?_ ?_); (focus rfl); (try dsimp only); go_wp2_with (first | (go_at_call 34; (with_reducible refine (HKp.out _ (ex_trans k4 (by (try show Ex _ _); repeat (first | (with_reducible exact ex_refl _) | (with_reducible assumption) | (with_reducible refine ex_drewL ?_) | (with_reducible refine ex_appR ?_ _) | (with_reducible refine ex_wx ?_ _) | (with_reducible refine ex_drew ?_) | (with_reducible refine ex_alloc ?_ _))))).mono ?_); rintro e w6 ⟨v6, rfl, hO6, k6⟩; have K6 : Hid (Ex w4 w6) := Lib.hid (ex_trans (by (try show Ex _ _); repeat (first | (with_reducible exact ex_refl _) | (with_reducible assumption) | (with_reducible refine ex_drewL ?_) | (with_reducible refine ex_appR ?_ _) | (with_reducible refine ex_wx ?_ _) | (with_reducible refine ex_drew ?_) | (with_reducible refine ex_alloc ?_ _))) k6); have kk6 := K6.out; obtain ⟨_, B3', _, _⟩ := HB.out _ K6.out; obtain ⟨n36, f36⟩ := block_cells (n := 6) B3' rfl; have z36 := (Array.getElem?_eq_some_iff.1 B3').1; replace B3' := Lib.hid B3'; have hO6 := Lib.hid hO6; clear k6) | (go_at_call 35; (with_reducible refine (HCr.out _ _ (ex_trans k4 (by (try show Ex _ _); repeat (first | (with_reducible exact ex_refl _) | (with_reducible assumption) | (with_reducible refine ex_drewL ?_) | (with_reducible refine ex_appR ?_ _) | (with_reducible refine ex_wx ?_ _) | (with_reducible refine ex_drew ?_) | (with_reducible refine ex_alloc ?_ _)))) ((ownbo_read' hO6.out).ex (by (try show Ex _ _); repeat (first | (with_reducible exact ex_refl _) | (with_reducible assumption) | (with_reducible refine ex_drewL ?_) | (with_reducible refine ex_appR ?_ _) | (with_reducible refine ex_wx ?_ _) | (with_reducible refine ex_drew ?_) | (with_reducible refine ex_alloc ?_ _))))).mono ?_); rintro e w7 ⟨v7, rfl, hV7, k7⟩; have K7 : Hid (Ex w4 w7) := Lib.hid (ex_trans (by (try show Ex _ _); repeat (first | (with_reducible exact ex_refl _) | (with_reducible assumption) | (with_reducible refine ex_drewL ?_) | (with_reducible refine ex_appR ?_ _) | (with_reducible refine ex_wx ?_ _) | (with_reducible refine ex_drew ?_) | (with_reducible refine ex_alloc ?_ _))) k7); have hV7' : RdN (NF N w4) w7 v7 d' := hV7.mono fun g hg => Or.inr (hg.elim (fun h => h.elim) fun h => Nat.le_trans (ex_size (by (try show Ex _ _); repeat (first | (with_reducible exact ex_refl _) | (with_reducible assumption) | (with_reducible refine ex_drewL ?_) | (with_reducible refine ex_appR ?_ _) | (with_reducible refine ex_wx ?_ _) | (with_reducible refine ex_drew ?_) | (with_reducible refine ex_alloc ?_ _)))) h); obtain ⟨hv5, qv5, rfl, p1, p2', _⟩ := hV7.out; obtain ⟨x3, x4, x5, xk, xr⟩ := HM.out _ _ _ _ K7.out hV7'; obtain ⟨_, B3', _, _⟩ := HB.out _ K7.out; obtain ⟨n37, f37⟩ := block_cells (n := 6) B3' rfl; have z37 := (Array.getElem?_eq_some_iff.1 B3').1; clear B3' hV7 k7; replace x3 := Lib.hid x3; replace x4 := Lib.hid x4; replace x5 := Lib.hid x5; replace xk := Lib.hid xk; replace xr := Lib.hid xr; replace hV7' := Lib.hid hV7')); refine mixQH_mk (⟨_, kp_of (by first | (with_reducible exact S4.out _ _ K7.out) | (with_reducible exact S3.out _ K7.out) | (with_reducible exact S3.out _ K6.out) | exact S3.out _ (by (try show Ex _ _); repeat (first | (with_reducible exact ex_refl _) | (with_reducible assumption) | (with_reducible refine ex_drewL ?_) | (with_reducible refine ex_appR ?_ _) | (with_reducible refine ex_wx ?_ _) | (with_reducible refine ex_drew ?_) | (with_reducible refine ex_alloc ?_ _))))⟩) ?_))
  all_goals (try (with_reducible refine wpForkH_fork ?_ ?_))
  all_goals repeat (first | ((with_reducible refine wpForkH_look ?_); go_big_quiet_step (fail); (try (with_reducible refine wpQuiet_nil ?_))) | (with_reducible refine wpForkH_eff ?_) | ((with_reducible refine effH_F ?_ ?_); (focus rfl); go_simp) | ((with_reducible refine effH_T ?_ ?_); (focus rfl); (try dsimp only); go_wp2_with (first | (go_at_call 34; (with_reducible refine (HKp.out _ (ex_trans k4 (by (try show Ex _ _); repeat (first | (with_reducible exact ex_refl _) | (with_reducible assumption) | (with_reducible refine ex_drewL ?_) | (with_reducible refine ex_appR ?_ _) | (with_reducible refine ex_wx ?_ _) | (with_reducible refine ex_drew ?_) | (with_reducible refine ex_alloc ?_ _))))).mono ?_); rintro e w6 ⟨v6, rfl, hO6, k6⟩; have K6 : Hid (Ex w4 w6) := Lib.hid (ex_trans (by (try show Ex _ _); repeat (first | (with_reducible exact ex_refl _) | (with_reducible assumption) | (with_reducible refine ex_drewL ?_) | (with_reducible refine ex_appR ?_ _) | (with_reducible refine ex_wx ?_ _) | (with_reducible refine ex_drew ?_) | (with_reducible refine ex_alloc ?_ _))) k6); have kk6 := K6.out; obtain ⟨_, B3', _, _⟩ := HB.out _ K6.out; obtain ⟨n36, f36⟩ := block_cells (n := 6) B3' rfl; have z36 := (Array.getElem?_eq_some_iff.1 B3').1; replace B3' := Lib.hid B3'; have hO6 := Lib.hid hO6; clear k6) | (go_at_call 35; (with_reducible refine (HCr.out _ _ (ex_trans k4 (by (try show Ex _ _); repeat (first | (with_reducible exact ex_refl _) | (with_reducible assumption) | (with_reducible refine ex_drewL ?_) | (with_reducible refine ex_appR ?_ _) | (with_reducible refine ex_wx ?_ _) | (with_reducible refine ex_drew ?_) | (with_reducible refine ex_alloc ?_ _)))) ((ownbo_read' hO6.out).ex (by (try show Ex _ _); repeat (first | (with_reducible exact ex_refl _) | (with_reducible assumption) | (with_reducible refine ex_drewL ?_) | (with_reducible refine ex_appR ?_ _) | (with_reducible refine ex_wx ?_ _) | (with_reducible refine ex_drew ?_) | (with_reducible refine ex_alloc ?_ _))))).mono ?_); rintro e w7 ⟨v7, rfl, hV7, k7⟩; have K7 : Hid (Ex w4 w7) := Lib.hid (ex_trans (by (try show Ex _ _); repeat (first | (with_reducible exact ex_refl _) | (with_reducible assumption) | (with_reducible refine ex_drewL ?_) | (with_reducible refine ex_appR ?_ _) | (with_reducible refine ex_wx ?_ _) | (with_reducible refine ex_drew ?_) | (with_reducible refine ex_alloc ?_ _))) k7); have hV7' : RdN (NF N w4) w7 v7 d' := hV7.mono fun g hg => Or.inr (hg.elim (fun h => h.elim) fun h => Nat.le_trans (ex_size (by (try show Ex _ _); repeat (first | (with_reducible exact ex_refl _) | (with_reducible assumption) | (with_reducible refine ex_drewL ?_) | (with_reducible refine ex_appR ?_ _) | (with_reducible refine ex_wx ?_ _) | (with_reducible refine ex_drew ?_) | (with_reducible refine ex_alloc ?_ _)))) h); obtain ⟨hv5, qv5, rfl, p1, p2', _⟩ := hV7.out; obtain ⟨x3, x4, x5, xk, xr⟩ := HM.out _ _ _ _ K7.out hV7'; obtain ⟨_, B3', _, _⟩ := HB.out _ K7.out; obtain ⟨n37, f37⟩ := block_cells (n := 6) B3' rfl; have z37 := (Array.getElem?_eq_some_iff.1 B3').1; clear B3' hV7 k7; replace x3 := Lib.hid x3; replace x4 := Lib.hid x4; replace x5 := Lib.hid x5; replace xk := Lib.hid xk; replace xr := Lib.hid xr; replace hV7' := Lib.hid hV7')); refine mixQH_mk (⟨_, kp_of (by first | (with_reducible exact S4.out _ _ K7.out) | (with_reducible exact S3.out _ K7.out) | (with_reducible exact S3.out _ K6.out) | exact S3.out _ (by (try show Ex _ _); repeat (first | (with_reducible exact ex_refl _) | (with_reducible assumption) | (with_reducible refine ex_drewL ?_) | (with_reducible refine ex_appR ?_ _) | (with_reducible refine ex_wx ?_ _) | (with_reducible refine ex_drew ?_) | (with_reducible refine ex_alloc ?_ _))))⟩) ?_))
  all_goals (with_reducible refine wpForkH_nil ?_)
  all_goals
    have y3 : cellsN (w7.setCells (w.heap.size + 1) 0 [hv5, qv5, I d'.ar, I d'.dm, .bool d'.dark, I (d'.ops : Nat)]) (w.heap.size + 1) 0 6 = some #[hv5, qv5, I d'.ar, I d'.dm, .bool d'.dark, I (d'.ops : Nat)] := (block_cells (n := 6) x3.out rfl).1
    obtain ⟨_, _, B4', B5'⟩ := HB.out _ K7.out
    have y4 : frozenN w7 (w.heap.size + 1 + 1) 0 6 = false := (block_cells (n := 6) B4' rfl).2
    have y4' : cellsN w7 (w.heap.size + 1 + 1) 0 6 = some #[.slice none 0 0, .slice none 0 0, .int .i64 0, .int .i64 0, .bool false, .int .i64 0] := (block_cells (n := 6) B4' rfl).1
    have y5 : cellsN w7 (w.heap.size + 1 + 1 + 1) 0 64 = some (rowB 64 fun _ => 0) := (block_cells (n := 64) B5' (by simp)).1
    have y5' : frozenN w7 (w.heap.size + 1 + 1 + 1) 0 64 = false := (block_cells (n := 64) B5' (by simp)).2
    have z4' : w.heap.size + 1 + 1 < w7.heap.size := (Array.getElem?_eq_some_iff.1 B4').1
    have z5' : w.heap.size + 1 + 1 + 1 < w7.heap.size := (Array.getElem?_eq_some_iff.1 B5').1
    clear B4' B5' n37 f37
    go_wp2
    obtain ⟨u4, u5, uR⟩ := said_fin (bl := zeroB) (er := 0) hN.out x4.out x5.out xk.out xr.out
    rw [hz.out] at u4 u5 uR
    exact ret_rowRB Try.results15 Try.underlying32 rfl info_rdk rfl u4 Try.underlying39 rfl info_blk rfl u5 rfl rfl uR
set_option maxHeartbeats 3000000 in
theorem said6_any {N : Nat → Prop} {w : World} {v : Value} {d : Dk} (h : RdN N w v d) (hN : ∀ g, N g → g < w.heap.size) (hok : DkOk d) (hops : d.ops < 1000000000) (hqb : d.qu.length < 1000000) (kd at' n : Int) (h0 : ¬ kd = 0 ∧ ¬ kd = 1 ∧ ¬ kd = 2 ∧ ¬ kd = 3 ∧ ¬ kd = 4 ∧ ¬ kd = 5) (h1 : -9223372036854775808 ≤ at') (h2 : at' < 9223372036854775808) {kv : Value} {keep : List Bool} (hs : SlV1 KBo 1 w kv keep) :
    Calls Try.prog 15 #[.agg #[I kd, I at', I n, kv], v] w (PostNB N w ((writeD d at' (blockA n)).1, zeroB, (writeD d at' (blockA n)).2)) := by
  obtain ⟨e0, e1, e2, e3, e4, e5⟩ := h0
  obtain ⟨hv, qv, rfl, o1, o2, s1, s2, m1, m2⟩ := h.out
  have hkv : kv.oneCell' = true := hs.one
  obtain ⟨w4, hw4⟩ : ∃ w4, (((w.alloc (.cells #[I kd, I at', I n, kv] 37)).alloc (.cells #[hv, qv, I d.ar, I d.dm, .bool d.dark, I (d.ops : Nat)] 32)).alloc (.cells #[.slice none 0 0, .slice none 0 0, .int .i64 0, .int .i64 0, .bool false, .int .i64 0] 32)).alloc (.cells (rowB 64 fun _ => 0) 39) = w4 := ⟨_, rfl⟩
  have k4 : Ex w w4 := by rw [← hw4]; exact ex_alloc (ex_alloc (ex_alloc (ex_alloc (ex_refl _) _) _) _) _
  have hs4 : Hid (w4.heap.size = w.heap.size + 4) := Lib.hid (by rw [← hw4]; simp [go_sem])
  have HM := Lib.hid (fun w5 hv5 qv5 d' => said_mid (N := N) (w := w) (hv := hv) (qv := qv) (d := d) (w5 := w5) (hv5 := hv5) (qv5 := qv5) (d' := d') hN hw4)
  have HB := Lib.hid (fun w5 (k : Ex w4 w5) => (let B := said_boxes hw4; (⟨ex_block k B.1, ex_block k B.2.1, ex_block k B.2.2.1, ex_block k B.2.2.2⟩ : _ ∧ _ ∧ _ ∧ _)))
  have hN4 : ∀ g, N g → g < w4.heap.size := fun g hg => Nat.lt_of_lt_of_le (hN g hg) (ex_size k4)
  have hz := Lib.hid zeroB_row
  have HBl := Lib.hid (fun W => block_any ⟨kd, at', n, keep⟩ kv W hkv)
  have HWr := Lib.hid (fun W (k : Ex w W) => write_doc (h.ex k) (fun g hg => Nat.lt_of_lt_of_le (hN g hg) (ex_size k)) hok at' (blockA n) h1 h2 hops hqb)
  generalize writeD d at' (blockA n) = r at *
  obtain ⟨d', er⟩ := r
  unfold AV at HBl
  simp only at HBl HWr ⊢
  obtain ⟨B2, B3, B4, B5⟩ := HB.out _ (ex_refl w4)
  obtain ⟨c0, f0⟩ := block_cell (o := 0) B2 rfl
  obtain ⟨c1, f1⟩ := block_cell (o := 1) B2 rfl
  obtain ⟨n2, f2⟩ := block_cells (n := 4) B2 rfl
  obtain ⟨n3, f3⟩ := block_cells (n := 6) B3 rfl
  have z2 := (Array.getElem?_eq_some_iff.1 B2).1
  have z3 := (Array.getElem?_eq_some_iff.1 B3).1
  have q0 : (kd == 0) = false := by simpa using e0
  have q1 : (kd == 1) = false := by simpa using e1
  have q2 : (kd == 2) = false := by simpa using e2
  have q3 : (kd == 3) = false := by simpa using e3
  have q4 : (kd == 4) = false := by simpa using e4
  have q5 : (kd == 5) = false := by simpa using e5
  clear B2 B3 B4 B5
  replace hw4 := Lib.hid hw4
  replace h := Lib.hid h
  replace hs := Lib.hid hs
  replace s1 := Lib.hid s1
  replace s2 := Lib.hid s2
  replace m1 := Lib.hid m1
  replace m2 := Lib.hid m2
  replace hN := Lib.hid hN
  replace hN4 := Lib.hid hN4
  replace hok := Lib.hid hok
  have kk4 := Lib.hid k4
  obtain ⟨P, hP⟩ : ∃ P : Nat → Prop, P = fun k => k = w.heap.size + 1 := ⟨_, rfl⟩
  have p2 : ¬ P w.heap.size := by rw [hP]; omega
  have S3 : Hid (∀ W, Ex w4 W → ∀ k, k < w4.heap.size → ¬ P k → W.heap[k]? = w4.heap[k]?) := Lib.hid fun W k => kps_of k
  have S4 : Hid (∀ W vs, Ex w4 W → ∀ k, k < w4.heap.size → ¬ P k → (W.setCells (w.heap.size + 1) 0 vs).heap[k]? = w4.heap[k]?) := Lib.hid fun W vs k => kps_sets (by rw [hP]) _ _ (kps_of k)
  clear hP
  go_enter Try.func15, Try.ntmps15
  go_wp2
  rw [hw4.out]
  clear c0 f0
  refine wp_region_forkH (fun w' => ∃ X, w' = kp w4 P X) (.look 1 (.look 2 (.look 3 (.fork 0 (.eff 4 (.eff 5 (.look 6 (.look 7 (.look 8 (.eff 9 (.look 10 .done))))))) 4 (.eff 0 (.eff 5 (.look 6 (.look 7 (.look 8 (.eff 9 (.look 10 .done))))))))))) (⟨_, kp_of (fun _ _ _ => rfl)⟩) (by kernel_rfl) (by kernel_rfl) (fun _ _ d _ _ h => by cases d <;> exact h) ?_
  simp only [Fk.ops, nth]
  repeat (first | ((with_reducible refine wpForkH_look ?_); go_big_quiet_step (fail); (try (with_reducible refine wpQuiet_nil ?_))) | (with_reducible refine wpForkH_eff ?_) | ((with_reducible refine effH_F ?_ ?_); (focus rfl); go_simp) | ((with_reducible refine effH_T ?_ ?_); (focus rfl); (try dsimp only); go_wp2_with (first | (go_at_call 26; (with_reducible refine (HBl.out _).mono ?_); rintro e w6 ⟨rfl, k6⟩; have K6 : Hid (Ex w4 w6) := Lib.hid (ex_trans (by (try show Ex _ _); repeat (first | (with_reducible exact ex_refl _) | (with_reducible assumption) | (with_reducible refine ex_drewL ?_) | (with_reducible refine ex_appR ?_ _) | (with_reducible refine ex_wx ?_ _) | (with_reducible refine ex_drew ?_) | (with_reducible refine ex_alloc ?_ _))) k6); have kk6 := K6.out; obtain ⟨_, B3', _, _⟩ := HB.out _ K6.out; obtain ⟨n36, f36⟩ := block_cells (n := 6) B3' rfl; have z36 := (Array.getElem?_eq_some_iff.1 B3').1; replace B3' := Lib.hid B3'; clear k6) | (go_at_call 38; (with_reducible refine (HWr.out _ (ex_trans k4 (by (try show Ex _ _); repeat (first | (with_reducible exact ex_refl _) | (with_reducible assumption) | (with_reducible refine ex_drewL ?_) | (with_reducible refine ex_appR ?_ _) | (with_reducible refine ex_wx ?_ _) | (with_reducible refine ex_drew ?_) | (with_reducible refine ex_alloc ?_ _))))).mono ?_); rintro e w7 ⟨v7, rfl, hV7, k7⟩; have K7 : Hid (Ex w4 w7) := Lib.hid (ex_trans (by (try show Ex _ _); repeat (first | (with_reducible exact ex_refl _) | (with_reducible assumption) | (with_reducible refine ex_drewL ?_) | (with_reducible refine ex_appR ?_ _) | (with_reducible refine ex_wx ?_ _) | (with_reducible refine ex_drew ?_) | (with_reducible refine ex_alloc ?_ _))) k7); have hV7' : RdN (NF N w4) w7 v7 d' := hV7.mono fun g hg => hg.elim Or.inl fun h => Or.inr (Nat.le_trans (ex_size (by (try show Ex _ _); repeat (first | (with_reducible exact ex_refl _) | (with_reducible assumption) | (with_reducible refine ex_drewL ?_) | (with_reducible refine ex_appR ?_ _) | (with_reducible refine ex_wx ?_ _) | (with_reducible refine ex_drew ?_) | (with_reducible refine ex_alloc ?_ _)))) h); obtain ⟨hv5, qv5, rfl, p1, p2', _⟩ := hV7.out; obtain ⟨x3, x4, x5, xk, xr⟩ := HM.out _ _ _ _ K7.out hV7'; obtain ⟨_, B3', _, _⟩ := HB.out _ K7.out; obtain ⟨n37, f37⟩ := block_cells (n := 6) B3' rfl; have z37 := (Array.getElem?_eq_some_iff.1 B3').1; clear B3' hV7 k7; replace x3 := Lib.hid x3; replace x4 := Lib.hid x4; replace x5 := Lib.hid x5; replace xk := Lib.hid xk; replace xr := Lib.hid xr; replace hV7' := Lib.hid hV7')); refine mixQH_mk (⟨_, kp_of (by first | (with_reducible exact S4.out _ _ K7.out) | (with_reducible exact S3.out _ K7.out) | (with_reducible exact S3.out _ K6.out) | exact S3.out _ (by (try show Ex _ _); repeat (first | (with_reducible exact ex_refl _) | (with_reducible assumption) | (with_reducible refine ex_drewL ?_) | (with_reducible refine ex_appR ?_ _) | (with_reducible refine ex_wx ?_ _) | (with_reducible refine ex_drew ?_) | (with_reducible refine ex_alloc ?_ _))))⟩) ?_))
  all_goals (try (with_reducible refine wpForkH_fork ?_ ?_))
  all_goals repeat (first | ((with_reducible refine wpForkH_look ?_); go_big_quiet_step (fail); (try (with_reducible refine wpQuiet_nil ?_))) | (with_reducible refine wpForkH_eff ?_) | ((with_reducible refine effH_F ?_ ?_); (focus rfl); go_simp) | ((with_reducible refine effH_T ?_ ?_); (focus rfl); (try dsimp only); go_wp2_with (first | (go_at_call 26; (with_reducible refine (HBl.out _).mono ?_); rintro e w6 ⟨rfl, k6⟩; have K6 : Hid (Ex w4 w6) := Lib.hid (ex_trans (by (try show Ex _ _); repeat (first | (with_reducible exact ex_refl _) | (with_reducible assumption) | (with_reducible refine ex_drewL ?_) | (with_reducible refine ex_appR ?_ _) | (with_reducible refine ex_wx ?_ _) | (with_reducible refine ex_drew ?_) | (with_reducible refine ex_alloc ?_ _))) k6); have kk6 := K6.out; obtain ⟨_, B3', _, _⟩ := HB.out _ K6.out; obtain ⟨n36, f36⟩ := block_cells (n := 6) B3' rfl; have z36 := (Array.getElem?_eq_some_iff.1 B3').1; replace B3' := Lib.hid B3'; clear k6) | (go_at_call 38; (with_reducible refine (HWr.out _ (ex_trans k4 (by (try show Ex _ _); repeat (first | (with_reducible exact ex_refl _) | (with_reducible assumption) | (with_reducible refine ex_drewL ?_) | (with_reducible refine ex_appR ?_ _) | (with_reducible refine ex_wx ?_ _) | (with_reducible refine ex_drew ?_) | (with_reducible refine ex_alloc ?_ _))))).mono ?_); rintro e w7 ⟨v7, rfl, hV7, k7⟩; have K7 : Hid (Ex w4 w7) := Lib.hid (ex_trans (by (try show Ex _ _); repeat (first | (with_reducible exact ex_refl _) | (with_reducible assumption) | (with_reducible refine ex_drewL ?_) | (with_reducible refine ex_appR ?_ _) | (with_reducible refine ex_wx ?_ _) | (with_reducible refine ex_drew ?_) | (with_reducible refine ex_alloc ?_ _))) k7); have hV7' : RdN (NF N w4) w7 v7 d' := hV7.mono fun g hg => hg.elim Or.inl fun h => Or.inr (Nat.le_trans (ex_size (by (try show Ex _ _); repeat (first | (with_reducible exact ex_refl _) | (with_reducible assumption) | (with_reducible refine ex_drewL ?_) | (with_reducible refine ex_appR ?_ _) | (with_reducible refine ex_wx ?_ _) | (with_reducible refine ex_drew ?_) | (with_reducible refine ex_alloc ?_ _)))) h); obtain ⟨hv5, qv5, rfl, p1, p2', _⟩ := hV7.out; obtain ⟨x3, x4, x5, xk, xr⟩ := HM.out _ _ _ _ K7.out hV7'; obtain ⟨_, B3', _, _⟩ := HB.out _ K7.out; obtain ⟨n37, f37⟩ := block_cells (n := 6) B3' rfl; have z37 := (Array.getElem?_eq_some_iff.1 B3').1; clear B3' hV7 k7; replace x3 := Lib.hid x3; replace x4 := Lib.hid x4; replace x5 := Lib.hid x5; replace xk := Lib.hid xk; replace xr := Lib.hid xr; replace hV7' := Lib.hid hV7')); refine mixQH_mk (⟨_, kp_of (by first | (with_reducible exact S4.out _ _ K7.out) | (with_reducible exact S3.out _ K7.out) | (with_reducible exact S3.out _ K6.out) | exact S3.out _ (by (try show Ex _ _); repeat (first | (with_reducible exact ex_refl _) | (with_reducible assumption) | (with_reducible refine ex_drewL ?_) | (with_reducible refine ex_appR ?_ _) | (with_reducible refine ex_wx ?_ _) | (with_reducible refine ex_drew ?_) | (with_reducible refine ex_alloc ?_ _))))⟩) ?_))
  all_goals (with_reducible refine wpForkH_nil ?_)
  all_goals
    have y3 : cellsN (w7.setCells (w.heap.size + 1) 0 [hv5, qv5, I d'.ar, I d'.dm, .bool d'.dark, I (d'.ops : Nat)]) (w.heap.size + 1) 0 6 = some #[hv5, qv5, I d'.ar, I d'.dm, .bool d'.dark, I (d'.ops : Nat)] := (block_cells (n := 6) x3.out rfl).1
    obtain ⟨_, _, B4', B5'⟩ := HB.out _ K7.out
    have y4 : frozenN w7 (w.heap.size + 1 + 1) 0 6 = false := (block_cells (n := 6) B4' rfl).2
    have y4' : cellsN w7 (w.heap.size + 1 + 1) 0 6 = some #[.slice none 0 0, .slice none 0 0, .int .i64 0, .int .i64 0, .bool false, .int .i64 0] := (block_cells (n := 6) B4' rfl).1
    have y5 : cellsN w7 (w.heap.size + 1 + 1 + 1) 0 64 = some (rowB 64 fun _ => 0) := (block_cells (n := 64) B5' (by simp)).1
    have y5' : frozenN w7 (w.heap.size + 1 + 1 + 1) 0 64 = false := (block_cells (n := 64) B5' (by simp)).2
    have z4' : w.heap.size + 1 + 1 < w7.heap.size := (Array.getElem?_eq_some_iff.1 B4').1
    have z5' : w.heap.size + 1 + 1 + 1 < w7.heap.size := (Array.getElem?_eq_some_iff.1 B5').1
    clear B4' B5' n37 f37
    go_wp2
    obtain ⟨u4, u5, uR⟩ := said_fin (bl := zeroB) (er := er) hN.out x4.out x5.out xk.out xr.out
    rw [hz.out] at u4 u5 uR
    exact ret_rowRB Try.results15 Try.underlying32 rfl info_rdk rfl u4 Try.underlying39 rfl info_blk rfl u5 rfl rfl uR
theorem said_any {N : Nat → Prop} {w : World} {v : Value} {d : Dk} (h : RdN N w v d) (hN : ∀ g, N g → g < w.heap.size) (hok : DkOk d) (hops : d.ops < 1000000000) (hqb : d.qu.length < 1000000) (a : Ak) {kv : Value} (hs : SlV1 KBo 1 w kv a.keep) (hb : AkB a) :
    Calls Try.prog 15 #[AV a kv, v] w (PostNB N w (askD a d)) := by
  unfold askD
  by_cases h0 : a.kind = 0
  · rw [if_pos h0]; exact said0_any h hN a hs h0 hb.n2 hb.n1
  by_cases h1 : a.kind = 1
  · rw [if_neg h0, if_pos h1]; exact said1_any h hN a hs h1 hb.n2 hb.n1
  obtain ⟨kd, at', n, keep⟩ := a
  obtain ⟨b1, b2, b3, b4⟩ := hb
  unfold AV
  simp only at h0 h1 hs b1 b2 b3 b4 ⊢
  by_cases h2 : kd = 2
  · rw [if_neg h0, if_neg h1, if_pos h2]; subst h2; exact said2_any h hN hok at' n hs
  by_cases h3 : kd = 3
  · rw [if_neg h0, if_neg h1, if_neg h2, if_pos h3]; subst h3; exact said3_any h hN hok hops at' n hs
  by_cases h4 : kd = 4 ∨ kd = 5
  · rw [if_neg h0, if_neg h1, if_neg h2, if_neg h3, if_pos h4]
    rcases h4 with rfl | rfl
    · exact said4_any h hN hok hops at' n b1 b2 hs
    · exact said5_any h hN hok hops at' n b1 b2 hs
  · rw [if_neg h0, if_neg h1, if_neg h2, if_neg h3, if_neg h4]
    exact said6_any h hN hok hops hqb kd at' n ⟨h0, h1, h2, h3, fun e => h4 (Or.inl e), fun e => h4 (Or.inr e)⟩ b1 b2 hs
end Go.Proofs.Ytdohohafdplkiaa
