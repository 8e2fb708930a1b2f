import Derived.Test.YtdohohafdplkiaaMDkDe

/- The document's disk: Read. -/
set_option linter.unusedSimpArgs false
set_option linter.unusedVariables false
set_option maxRecDepth 20000
namespace Go.Proofs.Ytdohohafdplkiaa
open Go.RowKit
/-- All but some blocks of A lies in W as it lay. -/
def Kps (A : World) (P : Nat → Prop) (W : World) : Prop := ∀ k, k < A.heap.size → ¬ P k → W.heap[k]? = A.heap[k]?
theorem kps_ex {A W W' : World} {P : Nat → Prop} (hz : A.heap.size ≤ W.heap.size) (h : Kps A P W) (k : Ex W W') : Kps A P W' := fun i hi hn => ((ex_below k).block i (Nat.lt_of_lt_of_le hi hz)).trans (h i hi hn)
theorem kps_of {A W : World} {P : Nat → Prop} (k : Ex A W) : Kps A P W := fun i hi _ => (ex_below k).block i hi
theorem kps_set {A W : World} {P : Nat → Prop} {b : Nat} (hb : P b) (o : Nat) (v : Value) (h : Kps A P W) : Kps A P (W.setCell ⟨b, o, none⟩ v) := fun i hi hn => (setCell_heap v fun e => hn (by rw [e]; exact hb)).trans (h i hi hn)
theorem kps_sets {A W : World} {P : Nat → Prop} {b : Nat} (hb : P b) (o : Nat) (vs : List Value) (h : Kps A P W) : Kps A P (W.setCells b o vs) := fun i hi hn => (setCells_heap _ _ _ _ _ fun e => hn (by rw [e]; exact hb)).trans (h i hi hn)
/-- Two results in memory of other types, and one beside them. -/
theorem ret_rowRB {P : Program} {fn : Func} {p p2 q : Tmp} {ty ty2 : TypeId} {d d2 : TypeDesc} {n n2 b b2 : Nat} {cs cs2 : Array Value} {v : Value} {R : Ending → World → Prop} {a : Act} {w : World} (h : fn.results = #[.cell p ty, .cell p2 ty2, .tmp q])
    (hu : P.underlying ty = some d) (hd : d.isRow = true) (hi : (P.info? ty).map (·.size) = some n) (hp : a.tmps.getD p undef = .pointer (some ⟨b, 0, none⟩)) (hc : cellsN w b 0 n = some cs)
    (hu2 : P.underlying ty2 = some d2) (hd2 : d2.isRow = true) (hi2 : (P.info? ty2).map (·.size) = some n2) (hp2 : a.tmps.getD p2 undef = .pointer (some ⟨b2, 0, none⟩)) (hc2 : cellsN w b2 0 n2 = some cs2)
    (hq : a.tmps.getD q undef = v) (hdf : a.defers = [])
    (hR : R (.returned (.tuple #[.agg cs, .agg cs2, v])) w) : bodyPost P fn R .ret a w := by
  have h1 := (cellsN_some.1 hc).1
  have h2 := (cellsN_some.1 hc2).1
  have hrun := run_loadVar_mid (P := P) w b 0 ty cs.toList d (cellsN_range hc) hu hd (by rw [hi]; simp [h1])
  have hrun2 := run_loadVar_mid (P := P) w b2 0 ty2 cs2.toList d2 (cellsN_range hc2) hu2 hd2 (by rw [hi2]; simp [h2])
  have hp' : a.tmps[p]?.getD undef = .pointer (some ⟨b, 0, none⟩) := by simpa using hp
  have hp2' : a.tmps[p2]?.getD undef = .pointer (some ⟨b2, 0, none⟩) := by simpa using hp2
  have hq' : a.tmps[q]?.getD undef = v := by simpa using hq
  exact bodyPost_ret (by simp [results, h, hp', hp2', hq', asAddr, hrun, hrun2]) hdf hR
theorem read_asked (d : Dk) (i : Int) : readD d i = if (askedD d i false).2 = 0 then ((askedD d i false).1, readsD d i, 0) else ((askedD d i false).1, zeroB, (askedD d i false).2) := by
  unfold readD askedD
  by_cases h : (reqD d i false).2 = 0
  · rw [if_pos h, if_pos h, if_pos rfl]
  · rw [if_neg h, if_neg h, if_neg h]
theorem asked_in {d : Dk} {i : Int} {ch : Bool} (h : (askedD d i ch).2 = 0) : 0 ≤ i ∧ i < d.has.length := by
  unfold askedD at h
  split at h
  · rename_i h0; exact req_in h0
  · exact req_in h
theorem asked_same (d : Dk) (i : Int) (ch : Bool) : (askedD d i ch).1.has = d.has ∧ (askedD d i ch).1.qu = d.qu := by
  have := req_same d i ch
  unfold askedD
  split
  · exact ⟨this.1, this.2.1⟩
  · exact ⟨this.1, this.2.1⟩
theorem res_end {w W : World} {b4 b5 : Nat} {t4 t5 : TypeId} {z4 z5 c4 c5 : Array Value} (B4 : W.heap[b4]? = some (.cells z4 t4 (0, 0))) (B5 : W.heap[b5]? = some (.cells z5 t5 (0, 0))) (hne : b4 ≠ b5) (l4 : w.heap.size ≤ b4) (l5 : w.heap.size ≤ b5) (k : Ex w W) (h4 : c4.size = z4.size) (h5 : c5.size = z5.size) :
    ((W.setCells b4 0 c4.toList).setCells b5 0 c5.toList).heap[b4]? = some (.cells c4 t4 (0, 0)) ∧ ((W.setCells b4 0 c4.toList).setCells b5 0 c5.toList).heap[b5]? = some (.cells c5 t5 (0, 0)) ∧ Ex w ((W.setCells b4 0 c4.toList).setCells b5 0 c5.toList) := by
  have e4 := setCells_block b4 t4 (0, 0) c4.toList 0 W _ B4
  rw [spliceA_all _ _ h4] at e4
  have e5 := setCells_block b5 t5 (0, 0) c5.toList 0 (W.setCells b4 0 c4.toList) _ ((setCells_heap _ _ _ _ _ (Ne.symm hne)).trans B5)
  rw [spliceA_all _ _ h5] at e5
  exact ⟨(setCells_heap _ _ _ _ _ hne).trans e4, e5, ex_setCellsK (ex_setCellsK k l4 _ _) l5 _ _⟩
set_option maxHeartbeats 2000000 in
theorem read_doc {N : Nat → Prop} {w : World} {v : Value} {d : Dk} (h : RdN N w v d) (hN : ∀ g, N g → g < w.heap.size) (hok : DkOk d) (i : Int) (h1 : -9223372036854775808 ≤ i) (h2 : i < 9223372036854775808) (hops : d.ops < 1000000000) :
    Calls Try.prog 37 #[v, I i] w (PostNB N w (readD d i)) := by
  obtain ⟨hv, qv, rfl, o1, o2, s1, s2, m1, m2⟩ := h.out
  obtain ⟨w2, hw2⟩ : ∃ w2, ((w.alloc (.cells #[hv, qv, I d.ar, I d.dm, .bool d.dark, I (d.ops : Nat)] 32)).alloc (.cells #[.slice none 0 0, .slice none 0 0, .int .i64 0, .int .i64 0, .bool false, .int .i64 0] 32)).alloc (.cells (rowB 64 fun _ => 0) 39) = w2 := ⟨_, rfl⟩
  have k2 : Ex w w2 := by rw [← hw2]; exact ex_alloc (ex_alloc (ex_alloc (ex_refl _) _) _) _
  have HR : Hid (∀ W, Ex w2 W → (W.heap[w.heap.size]? = some (.cells #[hv, qv, I d.ar, I d.dm, .bool d.dark, I (d.ops : Nat)] 32 (0, 0))) ∧ (W.heap[w.heap.size + 1]? = some (.cells #[.slice none 0 0, .slice none 0 0, .int .i64 0, .int .i64 0, .bool false, .int .i64 0] 32 (0, 0))) ∧ (W.heap[w.heap.size + 1 + 1]? = some (.cells (rowB 64 fun _ => 0) 39 (0, 0)))) := Lib.hid fun W k => by
    rw [← hw2] at k
    refine ⟨ex_block (ex_trans (ex_alloc (ex_alloc (ex_refl _) _) _) k) (heap_alloc_new w _), ?_, ?_⟩
    · have := heap_alloc_new (w.alloc (.cells #[hv, qv, I d.ar, I d.dm, .bool d.dark, I (d.ops : Nat)] 32)) (.cells #[.slice none 0 0, .slice none 0 0, .int .i64 0, .int .i64 0, .bool false, .int .i64 0] 32)
      rw [World.size_alloc] at this
      exact ex_block (ex_trans (ex_alloc (ex_refl _) _) k) this
    · have := heap_alloc_new ((w.alloc (.cells #[hv, qv, I d.ar, I d.dm, .bool d.dark, I (d.ops : Nat)] 32)).alloc (.cells #[.slice none 0 0, .slice none 0 0, .int .i64 0, .int .i64 0, .bool false, .int .i64 0] 32)) (.cells (rowB 64 fun _ => 0) 39)
      rw [World.size_alloc, World.size_alloc] at this
      exact ex_block k this
  have HA := Lib.hid (asked_doc (s1.ex k2) (s2.ex k2) i h1 h2 false ⟨hok.a1, hok.a2⟩ ⟨hok.d1, hok.d2⟩ hops)
  unfold rdvV at HA
  have HRd : Hid (0 ≤ i ∧ i < d.has.length → ∀ W, Ex w W → Calls Try.prog 39 #[.agg #[hv, qv, I d.ar, I d.dm, .bool d.dark, I (d.ops : Nat)], I i] W (Post W (.agg (rowB 64 (bkF (readsD d i)))))) := Lib.hid fun hi W k => by
    obtain ⟨q, rfl⟩ : ∃ q : Nat, i = q := ⟨i.toNat, by omega⟩
    exact reads_any (h.rd.ex k) (by omega) hok.qn
  rw [read_asked]
  have hin := asked_in (d := d) (i := i) (ch := false)
  have hsm : (askedD d i false).1.has = d.has ∧ (askedD d i false).1.qu = d.qu := asked_same d i false
  generalize askedD d i false = r at *
  obtain ⟨d', er⟩ := r
  simp only at hin HA hsm ⊢
  have HD : Hid (∀ W, Ex w W → RdN (NF N w) W (.agg #[hv, qv, I d'.ar, I d'.dm, .bool d'.dark, I (d'.ops : Nat)]) d') := Lib.hid fun W k => RdN.mkG (by rw [hsm.1]; exact s1.ex k) (by rw [hsm.2]; exact s2.ex k) (fun e g hg => Or.inl (m1 (by rwa [hsm.1] at e) g hg)) (fun e g hg => Or.inl (m2 (by rwa [hsm.2] at e) g hg))
  replace hw2 := Lib.hid hw2
  replace k2 := Lib.hid k2
  replace h := Lib.hid h
  replace hok := Lib.hid hok
  replace s1 := Lib.hid s1
  replace s2 := Lib.hid s2
  replace hsm := Lib.hid hsm
  replace hN := Lib.hid hN
  replace m1 := Lib.hid m1
  replace m2 := Lib.hid m2
  by_cases he : er = 0
  · subst he
    rw [if_pos rfl]
    replace HRd := Lib.hid (HRd.out (hin rfl))
    obtain ⟨rd, hrd⟩ : ∃ rd, readsD d i = rd := ⟨_, rfl⟩
    rw [hrd] at HRd ⊢
    clear hin hrd
    go_enter Try.func37, Try.ntmps37
    go_wp2_with (go_at_call 56; rw [hw2.out]; (with_reducible refine HA.out.mono ?_); rintro e w3 ⟨rfl, X3, rfl⟩; have k3 : Ex w2 (wx w2 X3) := ⟨X3, rfl⟩; replace k3 := Lib.hid k3)
    obtain ⟨w4, hw4⟩ : ∃ w4, (wx w2 X3).alloc (.cells #[hv, qv, I d'.ar, I d'.dm, .bool d'.dark, I (d'.ops : Nat)] 32) = w4 := ⟨_, rfl⟩
    obtain ⟨b7, hb7⟩ : ∃ b7, b7 = w2.heap.size + X3.blocks.length := ⟨_, rfl⟩
    have k4 : Ex w2 w4 := by rw [← hw4]; exact ex_alloc k3.out _
    obtain ⟨B2, B4, B5⟩ := HR.out _ k4
    have B7 : w4.heap[b7]? = some (.cells #[hv, qv, I d'.ar, I d'.dm, .bool d'.dark, I (d'.ops : Nat)] 32 (0, 0)) := by
      rw [← hw4, hb7, ← wx_size]; exact heap_alloc_new _ _
    obtain ⟨n2, f2⟩ := block_cells (n := 6) B2 rfl
    obtain ⟨n7, f7⟩ := block_cells (n := 6) B7 rfl
    have z2 := (Array.getElem?_eq_some_iff.1 B2).1
    have z7 := (Array.getElem?_eq_some_iff.1 B7).1
    have zz : w.heap.size + 3 ≤ b7 := by
      have : w2.heap.size = w.heap.size + 3 := by rw [← hw2.out]; simp [go_sem]
      omega
    obtain ⟨P, hP⟩ : ∃ P : Nat → Prop, P = fun k => k = w.heap.size + 1 ∨ k = w.heap.size + 1 + 1 := ⟨_, rfl⟩
    have p2 : ¬ P w.heap.size := by rw [hP]; rintro (e | e) <;> omega
    have p7 : ¬ P b7 := by rw [hP]; rintro (e | e) <;> omega
    have S3 : Hid (∀ W, Ex w4 W → ∀ k, k < w4.heap.size → ¬ P k → W.heap[k]? = w4.heap[k]?) := Lib.hid fun W k => kps_of k
    have S4 : Hid (∀ W vs, Ex w4 W → ∀ k, k < w4.heap.size → ¬ P k → (W.setCells (w.heap.size + 1) 0 vs).heap[k]? = w4.heap[k]?) := Lib.hid fun W vs k => kps_sets (by rw [hP]; exact Or.inl rfl) _ _ (kps_of k)
    have S5 : Hid (∀ W vs vs', Ex w4 W → ∀ k, k < w4.heap.size → ¬ P k → ((W.setCells (w.heap.size + 1) 0 vs).setCells (w.heap.size + 1 + 1) 0 vs').heap[k]? = w4.heap[k]?) := Lib.hid fun W vs vs' k => kps_sets (by rw [hP]; exact Or.inr rfl) _ _ (kps_sets (by rw [hP]; exact Or.inl rfl) _ _ (kps_of k))
    have HBs : Hid (∀ W, Ex w4 W → (W.heap[w.heap.size + 1]? = some (.cells #[.slice none 0 0, .slice none 0 0, .int .i64 0, .int .i64 0, .bool false, .int .i64 0] 32 (0, 0))) ∧ (W.heap[w.heap.size + 1 + 1]? = some (.cells (rowB 64 fun _ => 0) 39 (0, 0)))) := Lib.hid fun W k => ⟨ex_block k B4, ex_block k B5⟩
    have K4 := Lib.hid (ex_trans k2.out k4)
    rw [hw4, ← hb7]
    clear hw4 hb7 k4 B2 B4 B5 B7 hP
    refine wp_region_forkH (fun w' => ∃ X, w' = kp w4 P X) (.look 0 (.look 1 (.look 2 (.look 4 (.eff 3 (.eff 5 (.eff 6 (.look 7 .done)))))))) (⟨_, kp_of (fun _ _ _ => rfl)⟩) (by kernel_rfl) (by kernel_rfl) (fun _ _ d _ _ h => by cases d <;> exact h) ?_
    simp only [Fk.ops, nth]
    repeat (first | ((with_reducible refine wpForkH_look ?_); go_big_quiet_step (fail); (try (with_reducible refine wpQuiet_nil ?_))) | (with_reducible refine wpForkH_eff ?_) | ((with_reducible refine effH_F ?_ ?_); (focus rfl); go_simp) | ((with_reducible refine effH_T ?_ ?_); (focus rfl); (try dsimp only); go_wp2_with ((go_at_call 39; (with_reducible refine (HRd.out _ (ex_trans K4.out (by (try show Ex _ _); repeat (first | (with_reducible exact ex_refl _) | (with_reducible assumption) | (with_reducible refine ex_drewL ?_) | (with_reducible refine ex_appR ?_ _) | (with_reducible refine ex_wx ?_ _) | (with_reducible refine ex_drew ?_) | (with_reducible refine ex_alloc ?_ _))))).mono ?_); rintro e w6 ⟨rfl, k6⟩; have k6 : Hid (Ex w4 w6) := Lib.hid (ex_trans (by (try show Ex _ _); repeat (first | (with_reducible exact ex_refl _) | (with_reducible assumption) | (with_reducible refine ex_drewL ?_) | (with_reducible refine ex_appR ?_ _) | (with_reducible refine ex_wx ?_ _) | (with_reducible refine ex_drew ?_) | (with_reducible refine ex_alloc ?_ _))) k6); obtain ⟨B4, B5⟩ := HBs.out _ k6.out; obtain ⟨n4, f4⟩ := block_cells (n := 6) B4 rfl; obtain ⟨n5, f5⟩ := block_cells (n := 64) B5 (by simp); have z4 := (Array.getElem?_eq_some_iff.1 B4).1; have z5 := (Array.getElem?_eq_some_iff.1 B5).1; replace B4 := Lib.hid B4; replace B5 := Lib.hid B5)); refine mixQH_mk (⟨_, kp_of (by first | (with_reducible exact S3.out _ k6.out) | (with_reducible exact S4.out _ _ k6.out) | (with_reducible exact S5.out _ _ _ k6.out))⟩) ?_))
    all_goals (with_reducible refine wpForkH_nil ?_)
    go_wp2
    obtain ⟨x4, x5, xk⟩ := res_end (w := w) (c4 := #[hv, qv, I d'.ar, I d'.dm, .bool d'.dark, I (d'.ops : Nat)]) (c5 := rowB 64 (bkF rd)) B4.out B5.out (by omega) (by omega) (by omega) (ex_trans K4.out k6.out) rfl (by simp)
    refine ret_rowRB Try.results37 Try.underlying32 rfl info_rdk rfl (block_cells x4 rfl).1 Try.underlying39 rfl info_blk rfl (block_cells x5 (by simp)).1 rfl rfl ?_
    exact ⟨.agg #[hv, qv, I d'.ar, I d'.dm, .bool d'.dark, I (d'.ops : Nat)], rfl, HD.out _ xk, xk⟩
  · rw [if_neg he]
    have heb : (er == 0) = false := by simpa using he
    clear hin
    go_enter Try.func37, Try.ntmps37
    go_wp2_with (go_at_call 56; rw [hw2.out]; (with_reducible refine HA.out.mono ?_); rintro e w3 ⟨rfl, k3⟩; obtain ⟨B2, B4, B5⟩ := HR.out _ k3; obtain ⟨n4, f4⟩ := block_cells (n := 6) B4 rfl; obtain ⟨n5, f5⟩ := block_cells (n := 64) B5 (by simp); have z4 := (Array.getElem?_eq_some_iff.1 B4).1; have z5 := (Array.getElem?_eq_some_iff.1 B5).1; replace B2 := Lib.hid B2; replace B4 := Lib.hid B4; replace B5 := Lib.hid B5; replace k3 := Lib.hid k3)
    obtain ⟨x4, x5, xk⟩ := res_end (w := w) (c4 := #[hv, qv, I d'.ar, I d'.dm, .bool d'.dark, I (d'.ops : Nat)]) (c5 := rowB 64 (bkF zeroB)) B4.out B5.out (by omega) (by omega) (by omega) (ex_trans k2.out k3.out) rfl (by simp)
    rw [zeroB_row] at x4 x5 xk
    refine ret_rowRB Try.results37 Try.underlying32 rfl info_rdk rfl (block_cells (ex_block (ex_alloc (ex_refl _) _) x4) rfl).1 Try.underlying39 rfl info_blk rfl (block_cells (ex_block (ex_alloc (ex_refl _) _) x5) (by simp)).1 rfl rfl ?_
    refine ⟨.agg #[hv, qv, I d'.ar, I d'.dm, .bool d'.dark, I (d'.ops : Nat)], ?_, HD.out _ (ex_alloc xk _), ex_alloc xk _⟩
    rw [zeroB_row]; rfl
end Go.Proofs.Ytdohohafdplkiaa
