import Derived.Test.YtdohohafdplkiaaMDkDh

/- The document's disk: Crash. -/
set_option linter.unusedSimpArgs false
set_option linter.unusedVariables false
set_option maxRecDepth 20000
namespace Go.Proofs.Ytdohohafdplkiaa
open Go.RowKit
theorem doneD_lives {d : Dk} {keep : List Bool} {n : Nat} (hn : d.qu.length = n) : { doneD d (dL n (livesK keep n)) with dark := false, ar := -1, dm := -1 } = crashD d keep := by
  have h : doQ d.has 0 d.qu (keptL (dL n (livesK keep n))) = doQ d.has 0 d.qu (livesK keep d.qu.length) := by
    refine doQ_congr _ _ _ fun j hj => ?_
    rw [Nat.zero_add, keptL_dL _ (by omega), hn]
  unfold doneD crashD
  rw [h]
theorem wide_ne {W : World} {hv : Value} {l : List Bk} {b : Nat} {cs : Array Value} {t : TypeId} {fr : Nat × Nat} (h : SlV1 KK 64 W hv l) (hl : 0 < l.length) (hb : W.heap[b]? = some (.cells cs t fr)) (hc : cs.size < 64) : hv.ownBlock ≠ some b := by
  intro e
  obtain ⟨a, c, rfl, _, _, _, hr⟩ := h.out
  obtain ⟨g, off, rfl, _, hi⟩ := hr.pos hl
  obtain rfl : g = b := Option.some.inj e
  have h1 := (cellsN_some.1 (hi 0 _ (List.getElem?_eq_getElem hl))).2 63 (by omega)
  rw [cell_of_row W g _ cs t fr hb, Array.getElem?_eq_none (by omega)] at h1
  have h2 : (KK l[0]).toArray[63]? = some ((KK l[0]).toArray[63]'(by simp [KK_len])) := Array.getElem?_eq_getElem _
  rw [h2] at h1
  cases h1
set_option maxHeartbeats 1000000 in
theorem crash_doc {N : Nat → Prop} {w : World} {v : Value} {d : Dk} (h : RdN N w v d) (hok : DkOk d) {kv : Value} {keep : List Bool} (hs : SlV1 KBo 1 w kv keep) :
    Calls Try.prog 35 #[v, kv] w (PostN (fun _ => False) w (crashD d keep)) := by
  obtain ⟨hv, qv, rfl, o1, o2, s1, s2, m1, m2⟩ := h.out
  obtain ⟨aq, cq, rfl, cq1, cq2, cq3, _⟩ := id s2.out
  obtain ⟨n, hn⟩ : ∃ n, d.qu.length = n := ⟨_, rfl⟩
  have hn6 : n ≤ 1000000 := by rw [← hn]; exact hok.qn
  obtain ⟨w2, hw2⟩ : ∃ w2, (w.alloc (.cells #[hv, .slice aq d.qu.length cq, I d.ar, I d.dm, .bool d.dark, I (d.ops : Nat)] 32)).alloc (.cells #[.slice none 0 0, .slice none 0 0, .int .i64 0, .int .i64 0, .bool false, .int .i64 0] 32) = w2 := ⟨_, rfl⟩
  have k2 : Ex w w2 := by rw [← hw2]; exact ex_alloc (ex_alloc (ex_refl _) _) _
  have hw2s : w2.heap.size = w.heap.size + 2 := by rw [← hw2]; simp [go_sem]
  have B1 : w2.heap[w.heap.size]? = some (.cells #[hv, .slice aq d.qu.length cq, I d.ar, I d.dm, .bool d.dark, I (d.ops : Nat)] 32 (0, 0)) := by
    rw [← hw2]; exact ex_block (ex_alloc (ex_refl _) _) (heap_alloc_new w _)
  have B2 : w2.heap[w.heap.size + 1]? = some (.cells #[.slice none 0 0, .slice none 0 0, .int .i64 0, .int .i64 0, .bool false, .int .i64 0] 32 (0, 0)) := by
    rw [← hw2]
    have := heap_alloc_new (w.alloc (.cells #[hv, .slice aq d.qu.length cq, I d.ar, I d.dm, .bool d.dark, I (d.ops : Nat)] 32)) (.cells #[.slice none 0 0, .slice none 0 0, .int .i64 0, .int .i64 0, .bool false, .int .i64 0] 32)
    rwa [World.size_alloc] at this
  have HDn := Lib.hid (fun W (k : Ex w W) => done_doc (w := W) n hn6 (hs.ex k))
  have HDo := Lib.hid (fun W W0 (k : Ex w W) (g : Nat) (hO : OwnN W W0 g n (livesK keep n)) => do_doc (h.rd.ex k) hok (hO.read) (by rw [dL_len, hn]))
  rw [hn] at hw2 B1 HDo cq1 ⊢
  obtain ⟨n1, f1⟩ := block_cells (n := 6) B1 rfl
  obtain ⟨c1, g1⟩ := block_cell (o := 1) B1 rfl
  have z1 := (Array.getElem?_eq_some_iff.1 B1).1
  rw [← doneD_lives hn]
  obtain ⟨d', hd'⟩ : ∃ d', doneD d (dL n (livesK keep n)) = d' := ⟨_, rfl⟩
  rw [hd'] at HDo ⊢
  replace hw2 := Lib.hid hw2
  replace hw2s := Lib.hid hw2s
  replace k2 := Lib.hid k2
  replace h := Lib.hid h
  replace hs := Lib.hid hs
  replace hok := Lib.hid hok
  replace s1 := Lib.hid s1
  replace s2 := Lib.hid s2
  replace B1 := Lib.hid B1
  replace B2 := Lib.hid B2
  replace hn := Lib.hid hn
  replace hd' := Lib.hid hd'
  replace m1 := Lib.hid m1
  replace m2 := Lib.hid m2
  unfold maxLen at cq2
  have hkv : kv.oneCell' = true := hs.out.one
  go_enter Try.func35, Try.ntmps35
  go_wp2
  rw [hw2.out]
  have kw := k2.out
  refine wp_region_late [(0, true), (1, true), (2, true), (3, true), (4, true), (5, false), (6, false)] 8 [(7, some 5, (.cells #[.slice none 0 0, .slice none 0 0, .int .i64 0, .int .i64 0, .bool false, .int .i64 0] 32))] (by kernel_rfl) (by kernel_rfl) rfl (by intro x hx ρ W; simp only [List.mem_cons, List.not_mem_nil, or_false] at hx; repeat (first | subst hx | (rcases hx with rfl | hx)); all_goals (first | (simp [nth, go_sem, ptr]; done) | (simp [nth, go_sem, ptr]; rfl))) (fun _ _ d _ _ h => by cases d <;> exact h) (fun _ _ d _ _ h => by cases d <;> exact h) ?_
  simp only [List.map_cons, List.map_nil, nth, List.drop_succ_cons, List.drop_zero, lateR]
  repeat (first | (refine wpMix_look ?_; go_big_quiet_step (fail); refine wpQuiet_nil ?_) | (refine wpMix_eff rfl (fun X1 => ?_); go_wp2_with (first | (go_at_call 55; (with_reducible refine (HDn.out _ (ex_trans kw (by (try show Ex _ _); repeat (first | (with_reducible exact ex_refl _) | (with_reducible assumption) | (with_reducible refine ex_drewL ?_) | (with_reducible refine ex_appR ?_ _) | (with_reducible refine ex_wx ?_ _) | (with_reducible refine ex_drew ?_) | (with_reducible refine ex_alloc ?_ _))))).mono ?_); rintro e w6 ⟨g6, rfl, hO6, X6, rfl⟩; (try simp only [wx_wx, wx_drew] at hO6); replace hO6 := Lib.hid hO6) | (go_at_call 54; (with_reducible refine (HDo.out _ _ (ex_trans kw (by (try show Ex _ _); repeat (first | (with_reducible exact ex_refl _) | (with_reducible assumption) | (with_reducible refine ex_drewL ?_) | (with_reducible refine ex_appR ?_ _) | (with_reducible refine ex_wx ?_ _) | (with_reducible refine ex_drew ?_) | (with_reducible refine ex_alloc ?_ _)))) _ (hO6.out.ex (by (try show Ex _ _); repeat (first | (with_reducible exact ex_refl _) | (with_reducible assumption) | (with_reducible refine ex_drewL ?_) | (with_reducible refine ex_appR ?_ _) | (with_reducible refine ex_wx ?_ _) | (with_reducible refine ex_drew ?_) | (with_reducible refine ex_alloc ?_ _))))).mono ?_); rintro e w7 ⟨v7, rfl, hV7, X7, rfl⟩; (try simp only [wx_wx, wx_drew] at hV7); obtain ⟨hv7, qv7, rfl, p1, p2, t1, t2, u1, u2⟩ := hV7.out; replace t1 := Lib.hid t1; replace t2 := Lib.hid t2; replace u1 := Lib.hid u1; replace u2 := Lib.hid u2; replace hV7 := Lib.hid hV7)); refine mixQ_mk (by first | exact ex_refl _ | exact ⟨_, rfl⟩ | exact ex_app _ _ _ | (simp only [wx_wx, wx_drew]; first | exact ex_refl _ | exact ex_app _ _ _ | exact ⟨_, rfl⟩) | (repeat (first | exact ex_refl _ | refine ex_drew ?_ | refine ex_alloc ?_ _ | refine ex_wx ?_ _))) ?_))
  refine wpMix_nil (fun X2 => ?_)
  intro q hq
  unfold ptr
  have hhas : d'.has ≠ [] := by
    intro e
    have h1 : (doneD d (dL n (livesK keep n))).has.length = d.has.length := by unfold doneD; exact doQ_len _ _ _ _
    rw [hd'.out, e] at h1
    have := hok.out.n1
    simp at h1; omega
  have HZ : Hid (∀ g, hv7.ownBlock = some g → w2.heap.size ≤ g) := Lib.hid fun g hg => (u1.out hhas g hg).elim (fun h => h.elim) fun h => Nat.le_trans (by simp [go_sem]) h
  have T1 := Lib.hid (t1.out.ex (ex_wx (ex_refl _) X2))
  have T2 := Lib.hid (t2.out.ex (ex_wx (ex_refl _) X2))
  obtain ⟨Wf, kf, hqf, T1f, T2f, eW⟩ : ∃ Wf, Ex w2 Wf ∧ Wf.heap[w2.heap.size + q]? = _ ∧ Hid (SlV1 KK 64 Wf hv7 d'.has) ∧ Hid (SlV1 KQ 65 Wf qv7 d'.qu) ∧ Wf = _ := ⟨_, ex_wx (ex_wx (ex_refl _) _) X2, hq, T1, T2, rfl⟩
  rw [← eW]
  clear eW hq T1 T2
  have hq := hqf
  have T1 := T1f
  have T2 := T2f
  clear hqf T1f T2f
  obtain ⟨b5, hb5⟩ : ∃ b5, w2.heap.size + q = b5 := ⟨_, rfl⟩
  rw [hb5] at hq ⊢
  have hb5l : w.heap.size + 2 ≤ b5 := by have := hw2s.out; omega
  have G2 := ex_block kf B2.out
  have hne := wide_ne T1.out (by rw [← hd'.out]; show 0 < (doneD d _).has.length; unfold doneD; rw [doQ_len]; exact hok.out.n1) hq (by decide)
  obtain ⟨W5, hW5⟩ : ∃ W5, Wf.setCells b5 0 [hv7, qv7, I d'.ar, I d'.dm, .bool d'.dark, I (d'.ops : Nat)] = W5 := ⟨_, rfl⟩
  have G5 : W5.heap[b5]? = some (.cells #[hv7, qv7, I d'.ar, I d'.dm, .bool d'.dark, I (d'.ops : Nat)] 32 (0, 0)) := by
    rw [← hW5, setCells_block b5 32 (0, 0) [hv7, qv7, I d'.ar, I d'.dm, .bool d'.dark, I (d'.ops : Nat)] 0 Wf _ hq]; rfl
  obtain ⟨W6, hW6⟩ : ∃ W6, W5.setCell ⟨b5, 4, none⟩ (.bool false) = W6 := ⟨_, rfl⟩
  have G6 : W6.heap[b5]? = some (.cells #[hv7, qv7, I d'.ar, I d'.dm, .bool false, I (d'.ops : Nat)] 32 (0, 0)) := by
    rw [← hW6, setCell_block _ G5]; rfl
  obtain ⟨W7, hW7⟩ : ∃ W7, W6.setCell ⟨b5, 2, none⟩ (I (-1)) = W7 := ⟨_, rfl⟩
  have G7 : W7.heap[b5]? = some (.cells #[hv7, qv7, I (-1), I d'.dm, .bool false, I (d'.ops : Nat)] 32 (0, 0)) := by
    rw [← hW7, setCell_block _ G6]; rfl
  obtain ⟨W8, hW8⟩ : ∃ W8, W7.setCell ⟨b5, 3, none⟩ (I (-1)) = W8 := ⟨_, rfl⟩
  have G8 : W8.heap[b5]? = some (.cells #[hv7, qv7, I (-1), I (-1), .bool false, I (d'.ops : Nat)] 32 (0, 0)) := by
    rw [← hW8, setCell_block _ G7]; rfl
  have k8 : Ex w W8 := by
    rw [← hW8, ← hW7, ← hW6, ← hW5]
    exact ex_set (ex_set (ex_set (ex_setCellsK (ex_trans k2.out kf) (by omega) _ _) (show w.heap.size ≤ b5 by omega) _) (show w.heap.size ≤ b5 by omega) _) (show w.heap.size ≤ b5 by omega) _
  have G2c : W5.heap[w.heap.size + 1]? = some (.cells #[.slice none 0 0, .slice none 0 0, .int .i64 0, .int .i64 0, .bool false, .int .i64 0] 32 (0, 0)) := by
    rw [← hW5, setCells_heap _ _ _ _ _ (by omega)]; exact G2
  have G2b : W8.heap[w.heap.size + 1]? = some (.cells #[.slice none 0 0, .slice none 0 0, .int .i64 0, .int .i64 0, .bool false, .int .i64 0] 32 (0, 0)) := by
    rw [← hW8, setCell_heap _ (by omega), ← hW7, setCell_heap _ (by omega), ← hW6, setCell_heap _ (by omega)]; exact G2c
  obtain ⟨n5, f5⟩ := block_cells (n := 6) hq rfl
  have z5 := (Array.getElem?_eq_some_iff.1 hq).1
  have y6 := (block_cell (o := 4) G5 rfl).1
  have y7 := (block_cell (o := 2) G6 rfl).1
  have y8 := (block_cell (o := 3) G7 rfl).1
  have rE := (block_cells (n := 6) G8 rfl).1
  rw [← hW8, ← hW7, ← hW6] at rE
  have y6f := (block_cell (o := 4) G5 rfl).2
  have y7f := (block_cell (o := 2) G5 rfl)
  have y8f := (block_cell (o := 3) G5 rfl)
  have y5z := (Array.getElem?_eq_some_iff.1 G5).1
  obtain ⟨n2, f2⟩ := block_cells (n := 6) G2b rfl
  rw [← hW8, ← hW7, ← hW6] at n2 f2
  have z2 := (Array.getElem?_eq_some_iff.1 (show W5.heap[w.heap.size + 1]? = _ from G2c)).1
  replace G2b := Lib.hid G2b
  replace G2c := Lib.hid G2c
  replace hW5 := Lib.hid hW5
  replace hW6 := Lib.hid hW6
  replace hW7 := Lib.hid hW7
  replace hW8 := Lib.hid hW8
  clear y7 y8
  replace k8 := Lib.hid k8
  have q52 : b5 ≠ w.heap.size + 1 := by omega
  replace G5 := Lib.hid G5
  replace G6 := Lib.hid G6
  replace G7 := Lib.hid G7
  replace G8 := Lib.hid G8
  replace G2 := Lib.hid G2
  replace hne := Lib.hid hne
  replace hq := Lib.hid hq
  replace kf := Lib.hid kf
  clear hb5
  rename_i Kk hKk Xx
  replace hKk := Lib.hid hKk
  go_wp2
  refine hKk.out _ _ ?_
  rw [hW5.out]
  clear n5 f5
  go_wp2
  rw [hW6.out, hW7.out, hW8.out]
  have G9 := setCells_block (w.heap.size + 1) 32 (0, 0) [hv7, qv7, I (-1), I (-1), .bool false, I (d'.ops : Nat)] 0 W8 _ G2b.out
  have K9 : Ex w (W8.setCells (w.heap.size + 1) 0 [hv7, qv7, I (-1), I (-1), .bool false, I (d'.ops : Nat)]) := ex_setCellsK k8.out (by omega) _ _
  have hsame : ∀ g, g ≠ b5 → g ≠ w.heap.size + 1 → (W8.setCells (w.heap.size + 1) 0 [hv7, qv7, I (-1), I (-1), .bool false, I (d'.ops : Nat)]).heap[g]? = Wf.heap[g]? := fun g h1 h2 => by
    rw [setCells_heap _ _ _ _ _ h2, ← hW8.out, setCell_heap _ h1, ← hW7.out, setCell_heap _ h1, ← hW6.out, setCell_heap _ h1, ← hW5.out, setCells_heap _ _ _ _ _ h1]
  have hsz : Wf.heap.size ≤ (W8.setCells (w.heap.size + 1) 0 [hv7, qv7, I (-1), I (-1), .bool false, I (d'.ops : Nat)]).heap.size := by
    rw [setCells_size, ← hW8.out, ← hW7.out, ← hW6.out, ← hW5.out]
    simp [World.setCell, setCells_size]
  have hqu : d'.qu = [] := by rw [← hd'.out]; rfl
  refine ret_row Try.results35 Try.underlying32 rfl info_rdk rfl (block_cells G9 rfl).1 rfl ⟨_, rfl, RdN.mkG (d := { has := d'.has, qu := d'.qu, ar := -1, dm := -1, dark := false, ops := d'.ops }) ?_ ?_ (fun _ g hg => Or.inr ?_) (fun e => absurd hqu e), K9⟩
  · exact T1.out.keep hsz fun g hg => hsame g (fun e => hne.out (e ▸ hg)) (by have := HZ.out g hg; have := hw2s.out; omega)
  · have T2 := T2.out
    show SlV1 KQ 65 _ qv7 d'.qu
    rw [hqu] at T2 ⊢
    obtain ⟨a, c, e, h1, h2, h3, _⟩ := T2.out
    exact ⟨a, c, e, h1, h2, h3, SlR.nil _ _ _ _⟩
  · have := HZ.out g hg; have := hw2s.out; omega
end Go.Proofs.Ytdohohafdplkiaa
