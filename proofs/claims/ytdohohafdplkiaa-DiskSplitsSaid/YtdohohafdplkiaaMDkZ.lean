import Derived.Test.YtdohohafdplkiaaMDkX
import Derived.Laws.EntriesVeiled

/- Crash. -/
set_option linter.unusedSimpArgs false
set_option linter.unusedVariables false
set_option maxRecDepth 20000
namespace Go.Proofs.Ytdohohafdplkiaa
open Go.RowKit
attribute [local go_sem] Oper.semAt_some
theorem crash_nil (v : Value) (w : World) (hv : v.oneCell' = true) : Calls Try.prog 18 #[.pointer none, v] w (Post w (I 1)) := by
  go_enter Try.func18, Try.ntmps18
  go_wp2
  go_ret
  exact post_mk' rfl (by (try show Ex _ _); repeat (first | (with_reducible exact ex_refl _) | (with_reducible assumption) | (with_reducible refine ex_drewL ?_) | (with_reducible refine ex_appR ?_ _) | (with_reducible refine ex_wx ?_ _) | (with_reducible refine ex_drew ?_) | (with_reducible refine ex_alloc ?_ _)))
theorem under_none {keep : List Bool} {l : List Pt} (h : ∀ y ∈ uptoL (lastF l) l.length, keptL keep y.1 = false) : underK keep l.length = 0 := by
  have : topK keep l.length = none := (topK_none keep _).2 fun p hp => by
    have := h (lastF l (l.length - 1 - p)) (by
      unfold uptoL
      exact List.mem_map.2 ⟨l.length - 1 - p, List.mem_range.2 (by omega), rfl⟩)
    have e : (lastF l (l.length - 1 - p)).1 = p := by show l.length - 1 - (l.length - 1 - p) = p; omega
    rwa [e] at this
  unfold underK; rw [this]
theorem under_some {keep : List Bool} {l : List Pt} {j : Nat} (hj : j < l.length) (h : ∀ y ∈ uptoL (lastF l) j, keptL keep y.1 = false) (hk : keptL keep (lastF l j).1 = true) : underK keep l.length = (lastF l j).1 - 3 := by
  have : topK keep l.length = some (lastF l j).1 := (topK_spec keep _ _).2 ⟨by show l.length - 1 - j < _; omega, hk, fun p h1 h2 => by
    have h1 : l.length - 1 - j < p := h1
    have := h (lastF l (l.length - 1 - p)) (by
      unfold uptoL
      exact List.mem_map.2 ⟨l.length - 1 - p, List.mem_range.2 (by omega), rfl⟩)
    have e : (lastF l (l.length - 1 - p)).1 = p := by show l.length - 1 - (l.length - 1 - p) = p; omega
    rwa [e] at this⟩
  unfold underK; rw [this]
def capU (k : Nat) : Int := max (wrap64 (wrap64 ((k : Int) - 4) + 1)) 0
theorem capU_eq {k : Nat} (h : k ≤ 1000000) : capU k = ((k - 3 : Nat) : Int) := by unfold capU wrap64; omega
/-- A round has left. -/
structure IxC (b6 : Nat) (w3 : World) (keep : List Bool) (c : Code) (pre : List (Nat × Pt)) (W' : World) : Prop where
  fr : Frm (fun b => b = b6) w3 W'
  ce : c = .exit 0
  out : ∃ ini y, pre = ini ++ [y] ∧ (∀ z ∈ ini, keptL keep z.1 = false) ∧ keptL keep y.1 = true ∧ W'.heap[b6]? = some (.cells #[I (capU y.1)] 3 (0, 0))
theorem ixc_mk {b6 : Nat} {w3 W' : World} {keep : List Bool} {pre : List (Nat × Pt)} {y : Nat × Pt} (X : More) (v : Int) (hv : v = capU y.1) (hF : Frm (fun b => b = b6) w3 W') (hH : W'.heap[b6]? = some (.cells #[I 0] 3 (0, 0))) (hne : ∀ z ∈ pre, keptL keep z.1 = false) (hk : keptL keep y.1 = true) :
    IxC b6 w3 keep (.exit 0) (pre ++ [y]) (wx (W'.setCell ⟨b6, 0, none⟩ (I v)) X) := by
  subst hv
  exact ⟨(hF.set rfl 0 _).trans (Frm.ex ⟨X, rfl⟩), rfl, pre, y, rfl, hne, hk, ex_block ⟨X, rfl⟩ (setCell_block (I (capU y.1)) hH)⟩
set_option maxRecDepth 100000 in
set_option maxHeartbeats 2000000 in
theorem crash_any {w : World} {L : Loc} {d : Dk} (h : DkAt w L d) (kv : Value) (keep : List Bool) (hs : SlV1 KBo 1 w kv keep) (hko : ∀ g, kv.ownBlock = some g → ¬ L.own g ∧ g < w.heap.size) :
    Calls Try.prog 18 #[PT L.p, kv] w (PostD w L (crashD d keep) (I 0)) := by
  obtain ⟨qv, hM⟩ := h.out
  have hq1 := hM.ok.qn
  obtain ⟨Z, hZ⟩ : ∃ Z, Z = w.heap.size := ⟨_, rfl⟩
  have HZ := Lib.hid (fun b (hb : L.own b) => show b < Z by rw [hZ]; exact h.lt hb)
  have hk1 : kv.oneCell' = true := by obtain ⟨a, c, rfl, _⟩ := hs.out; rfl
  obtain ⟨bk, hbk⟩ : ∃ bk, bk = w.heap.size := ⟨_, rfl⟩
  obtain ⟨b5, hb5⟩ : ∃ b5, b5 = w.heap.size + 1 := ⟨_, rfl⟩
  obtain ⟨b6, hb6⟩ : ∃ b6, b6 = w.heap.size + 1 + 1 := ⟨_, rfl⟩
  obtain ⟨w2, hw2⟩ : ∃ w2, ((w.alloc (.cells #[kv] 35)).alloc (.cells #[.func (.func 40) #[] #[PT bk]] 80)).alloc (.cells #[I 0] 3) = w2 := ⟨_, rfl⟩
  have k2 : Ex w w2 := by rw [← hw2]; exact ex_alloc (ex_alloc (ex_alloc (ex_refl _) _) _) _
  have hs2 : w2.heap.size = w.heap.size + 3 := by rw [← hw2]; simp [go_sem]
  have r0 : w2.heap[bk]? = some (.cells #[kv] 35 (0, 0)) := by rw [← hw2, hbk]; exact ex_block (ex_alloc (ex_alloc (ex_refl _) _) _) (heap_alloc_new w _)
  have r1 : w2.heap[b5]? = some (.cells #[.func (.func 40) #[] #[PT bk]] 80 (0, 0)) := by
    rw [← hw2, hb5]
    have := ex_block (ex_alloc (ex_refl _) (.cells #[I 0] 3)) (heap_alloc_new (w.alloc (.cells #[kv] 35)) (.cells #[.func (.func 40) #[] #[PT bk]] 80))
    simpa only [World.size_alloc] using this
  have r2 : w2.heap[b6]? = some (.cells #[I 0] 3 (0, 0)) := by
    rw [← hw2, hb6]
    have := heap_alloc_new ((w.alloc (.cells #[kv] 35)).alloc (.cells #[.func (.func 40) #[] #[PT bk]] 80)) (.cells #[I 0] 3)
    simpa only [World.size_alloc] using this
  have HKo := Lib.hid (fun g hg => (hko g hg).1)
  have HKz : Hid (∀ g, kv.ownBlock = some g → g < Z) := Lib.hid (fun g hg => by rw [hZ]; exact (hko g hg).2)
  have Hw2 := Lib.hid hw2
  replace hZ := Lib.hid hZ
  have e0 : Hid (bk = Z ∧ b5 = Z + 1 ∧ b6 = Z + 2 ∧ w2.heap.size = Z + 3 ∧ w.heap.size = Z) := Lib.hid (by rw [hZ.out]; exact ⟨hbk, hb5, hb6, hs2, rfl⟩)
  have HM := Lib.hid hM
  have HS := Lib.hid hs
  have K2 := Lib.hid k2
  replace r0 := Lib.hid r0
  replace r1 := Lib.hid r1
  replace r2 := Lib.hid r2
  clear hw2 hs2 hko hM hs h k2
  refine calls_of_marks Try.func18 rfl ?_
  simp only [Try.ntmps18, List.size_toArray, List.length_cons, List.length_nil, Nat.reduceAdd, Nat.reduceSub, Array.replicate_succ, Array.replicate_zero, List.push_toArray, List.append_toArray, List.nil_append, List.cons_append]
  replace hbk := Lib.hid hbk
  replace hb5 := Lib.hid hb5
  replace hb6 := Lib.hid hb6
  go_wp2_with (go_at_call 41; (with_reducible refine (last_any _ _).mono ?_); rintro e w3 ⟨rfl, rfl⟩)
  obtain ⟨bx, hbx⟩ : ∃ bx, w.heap.size + 1 + 1 + 1 = bx := ⟨_, rfl⟩
  rw [hbx, ← hb6.out, ← hb5.out, ← hbk.out, Hw2.out]
  obtain ⟨E1, E2, E3, E4, E5⟩ := e0.out
  have hbx2 : bx = w2.heap.size := by omega
  replace hbx := Lib.hid hbx
  obtain ⟨w3, hw3⟩ : ∃ w3, w2.alloc (.cells #[PT L.p] 24) = w3 := ⟨_, rfl⟩
  have k23 : Ex w2 w3 := by rw [← hw3]; exact ex_alloc (ex_refl _) _
  have hs3 : w3.heap.size = w2.heap.size + 1 := by rw [← hw3]; simp [go_sem]
  have Hx3 : w3.heap[bx]? = some (.cells #[PT L.p] 24 (0, 0)) := by rw [← hw3, hbx2]; exact heap_alloc_new w2 _
  rw [hw3]
  clear hw3
  have HM2 := Lib.hid (HM.out.ex (ex_trans K2.out k23))
  have HS2 := Lib.hid (HS.out.ex (ex_trans K2.out k23))
  have Hk2 := Lib.hid (ex_block k23 r0.out)
  have H52 := Lib.hid (ex_block k23 r1.out)
  have H62 := ex_block k23 r2.out
  have F3 : Hid (Frm (fun b => Z ≤ b) w w3) := Lib.hid (Frm.ex (ex_trans K2.out k23))
  have y1 : bk < w3.heap.size := by omega
  have y2 : b5 < w3.heap.size := by omega
  have y3 : b6 < w3.heap.size := by omega
  have y4 : bx < w3.heap.size := by omega
  have y5 : Z ≤ w3.heap.size := by omega
  have y6 : Z ≤ b6 ∧ b6 ≠ bx ∧ Z ≤ bk ∧ Z ≤ b5 ∧ bk ≠ b6 ∧ b5 ≠ b6 := by omega
  have e3 : Hid (bk = Z ∧ b5 = Z + 1 ∧ b6 = Z + 2 ∧ w3.heap.size = Z + 4 ∧ w.heap.size = Z) := Lib.hid (by omega)
  clear E1 E2 E3 E4 E5 hbx2 hs3 e0 k23
  refine (wpIn_wide (n := 3)).1 ?_
  refine wpIn_rangeFunc_ownG rfl (by omega) (gf := 57) (lb := #[PT bx]) rfl trivial (enters_of Try.func57 (by kernel_rfl) rfl)
    (last_stops 2 (by omega) bx Z L d qv w3 HM2.out HZ.out Hx3) (fun h k => Frm.trans h k) (kpQ_b y5 y4) (Below.refl _ _) (fun _ => rfl)
    (fun pre W' => Frm (fun b => b = b6) w3 W' ∧ W'.heap[b6]? = some (.cells #[I 0] 3 (0, 0)) ∧ ∀ y ∈ pre, keptL keep y.1 = false)
    (fun c pre W' => IxC b6 w3 keep c pre W')
    (OwnFrom.and (ownFrom_frm (Nat.le_refl _)) (OwnFrom.and (ownFrom_heap _ y3) (ownFrom_pure' _ _)))
    (fun c s A B row hs hg hr => by obtain ⟨h1, h2, ini, y, h3, h4, h5, h6⟩ := hs; exact ⟨h1.grown hg (fun r e => (hr r e).1) (Nat.le_refl _), h2, ini, y, h3, h4, h5, (grown_heap hg (fun r e => (hr r e).1) y3 (Array.getElem?_eq_some_iff.1 h6).1).trans h6⟩)
    ⟨Frm.refl _ _, H62, fun _ h => by cases h⟩
    (fun y => { tmps := #[PT L.p, kv, undef, PT bk, I 0, PT b5, PT b6, I (y.1 : Nat), PT L.p, .bool false, .func (.func 40) #[] #[PT bk], PT L.p, .func (.func 57) #[] #[PT bx], I (y.1 : Nat), .agg (KQ y.2).toArray, undef, undef, undef, undef, undef, undef, undef, undef, undef, undef, undef, undef, undef, undef, undef, undef, undef, undef, undef], defers := [] })
    ?assign ?body ?done ?stop
  case assign =>
    intro l y W' K hK
    dsimp only [encQ]
    gi_wp2
    exact hK
  case body =>
    rintro l pre y W' ⟨hF, hH, hne⟩ hlt
    have hS := HS2.out.keep hF.size fun g hg => hF.same g (by have := HKz.out g hg; omega) (by have := HKz.out g hg; omega)
    have n3 := (hF.same bk y1 y6.2.2.2.2.1).trans Hk2.out
    have n5 := (hF.same b5 y2 y6.2.2.2.2.2).trans H52.out
    have HKe := Lib.hid (fun V (x : Ex W' V) => kept_any (hS.ex x) bk y.1 (ex_block x n3))
    have c5 := (block_cell (o := 0) (v := .func (.func 40) #[] #[PT bk]) n5 rfl).1
    have z5 := (Array.getElem?_eq_some_iff.1 n5).1
    obtain ⟨c6, f6⟩ := block_cell (o := 0) (v := I 0) hH rfl
    have z6 := (Array.getElem?_eq_some_iff.1 hH).1
    clear n3 n5 hS
    cases hke : keptL keep y.1 with
    | true =>
      rw [hke] at HKe
      gi_wp2_with (refine ⟨trivial, ?_⟩; gi_at_call 40; refine (CallsIn.inRound l (callsIn_wide.2 (HKe.out _ (ex_refl _)))).mono ?_; rintro e V ⟨rfl, X, rfl⟩)
      all_goals
        exact ⟨((KeepsOthers.setCell _ _ _).trans (keepsO_ex ⟨X, rfl⟩)).from _, ixc_mk X _ (by unfold capU; omega) hF hH hne hke⟩
    | false =>
      rw [hke] at HKe
      gi_wp2_with (refine ⟨trivial, ?_⟩; gi_at_call 40; refine (CallsIn.inRound l (callsIn_wide.2 (HKe.out _ (ex_refl _)))).mono ?_; rintro e V ⟨rfl, X, rfl⟩)
      exact ⟨(keepsO_ex ⟨X, rfl⟩).from _, Frm.ex ⟨X, rfl⟩, hF.trans (Frm.ex ⟨X, rfl⟩), ex_block ⟨X, rfl⟩ hH, fun z hz => (List.mem_append.1 hz).elim (hne z) (fun e => by simp at e; subst e; exact hke)⟩
  case done =>
    rintro D ys W' hD rfl ⟨hF, hH, hne⟩ hK
    have hH : W'.heap[b6]? = some (.cells #[I (underK keep d.qu.length : Nat)] 3 (0, 0)) := by rw [under_none hne]; exact hH
    obtain ⟨u, hu⟩ : ∃ u, underK keep d.qu.length = u := ⟨_, rfl⟩
    rw [hu] at hH
    have hW : DkAt W' L d := ⟨qv, HM2.out.keep fun b hb => hF.same b (HM2.out.lt hb) fun e => by have := HZ.out b hb; omega⟩
    have s3 : w3.heap.size ≤ W'.heap.size := hF.size
    have n3 : W'.heap[bk]? = some (.cells #[kv] 35 (0, 0)) := (hF.same bk (by omega) (by omega)).trans Hk2.out
    have n5 : W'.heap[b5]? = some (.cells #[.func (.func 40) #[] #[PT bk]] 80 (0, 0)) := (hF.same b5 (by omega) (by omega)).trans H52.out
    have nS : SlV1 KBo 1 W' kv keep := HS2.out.keep hF.size fun g hg => hF.same g (by have := HKz.out g hg; omega) (by have := HKz.out g hg; omega)
    have HD := Lib.hid (doesC_any hW b6 b5 (livesK keep d.qu.length) fun V hV k hk => by
      have sv : W'.heap.size ≤ V.heap.size := hV.size
      have hs : ∀ b, b < W'.heap.size → Z ≤ b → V.heap[b]? = W'.heap[b]? := fun b h1 h2 => hV.same b h1 fun e => by have := HZ.out b e; omega
      have := lives_any (nS.keep hV.size fun g hg => hV.same g (by have := HKz.out g hg; omega) (HKo.out g hg)) bk b5 b6 k u ((hs bk (by omega) (by omega)).trans n3) ((hs b5 (by omega) (by omega)).trans n5) ((hs b6 (by omega) (by omega)).trans hH)
      unfold livesK
      rw [hu]
      exact this)
    have hDz : w3.heap.size ≤ D := hD
    have f3 := F3.out.trans (Frm.mono (G := fun b => Z ≤ b) hF fun b hb => by omega)
    have HDv := Lib.hid (show Dv L w L W' from ⟨f3.os, f3.tape, f3.output, f3.size, fun b h1 _ => f3.same b h1 (by have := e3.out; omega), rfl, rfl, fun _ h => Or.inl h⟩)
    have hKc := Lib.hid hK
    clear n3 n5 nS hH hW f3 hK
    go_wp2_with (go_at_call 42; (with_reducible refine HD.out.mono ?_); rintro e w9 ⟨rfl, L', hW9, hV9⟩; obtain ⟨qv9, hM9⟩ := hW9.out; obtain ⟨⟨c0, c1, c2, c3, c4, c5⟩, hf9, hz9⟩ := hM9.cells; have g2 := hf9 2; have g3 := hf9 3; have g4 := hf9 4; have epp := hV9.pp; rw [epp] at c2 c3 c4 g2 g3 g4 hz9; clear hf9 c0 c1 c5 hW9; replace hM9 := Lib.hid hM9; replace hV9 := Lib.hid hV9; replace epp := Lib.hid epp)
    have hDW : D < W'.heap.size := (Array.getElem?_eq_some_iff.1 hKc.out).1
    have hDZ : Z ≤ D := by have := e3.out; omega
    have hDp : D ≠ L.p := by
      have := HZ.out L.p (Or.inl rfl)
      omega
    have hD9 : w9.heap[D]? = some (.deferred (some [])) := (hV9.out.same D hDW fun e => by have := HZ.out D e; omega).trans hKc.out
    obtain ⟨Wf, hWf⟩ : ∃ Wf, ((w9.setCell ⟨L.p, 4, none⟩ (.bool false)).setCell ⟨L.p, 2, none⟩ (I (-1))).setCell ⟨L.p, 3, none⟩ (I (-1)) = Wf := ⟨_, rfl⟩
    have hKf : Wf.heap[D]? = some (.deferred (some [])) := by
      rw [← hWf]
      exact (setCell_heap _ hDp).trans ((setCell_heap _ hDp).trans ((setCell_heap _ hDp).trans hD9))
    have hMf : DkM Wf L' (crashD d keep) qv9 := by
      have h3 := ((hM9.out.setDark false).setAr (x := -1) (by omega) (by omega)).setDm (x := -1) (by omega) (by omega)
      rw [epp.out, hWf] at h3
      exact h3
    have hVf : Dv L w L' Wf := by
      have h3 := (((HDv.out.trans hV9.out).setP 4 (.bool false)).setP 2 (I (-1))).setP 3 (I (-1))
      rw [epp.out, hWf] at h3
      exact h3
    rw [hWf]
    refine ⟨by simp, .inl ⟨_, _, rfl, run_takeDeferred hKf, ?_⟩⟩
    have hg := grownBy_putObj' Wf D (.deferred none)
    refine ⟨_, results_tmp rfl _ _ _, L', rfl, ⟨qv9, hMf.keep fun b hb => hg.block b (hMf.lt hb) fun e => ?_⟩, hVf.frm (F := fun b => b = D) ⟨hg.os, hg.tape, hg.output, hg.size, fun b h1 h2 => hg.block b h1 fun e => h2 (Option.some.inj e)⟩ fun b hb => by have := e3.out; omega⟩
    have hbD : b = D := Option.some.inj e
    rcases hV9.out.own hb with h9 | h9
    · have := HZ.out b h9; omega
    · omega
  case stop =>
    rintro D c pre W' hD ⟨k, hk, rfl⟩ ⟨hF, rfl, ini, y, e1, e2, e4, e5⟩ hK
    refine wpIn_wide.2 ?_
    obtain ⟨j, rfl, rfl, rfl⟩ := uptoL_split e1
    have hH : W'.heap[b6]? = some (.cells #[I (underK keep d.qu.length : Nat)] 3 (0, 0)) := by rw [under_some (by omega) e2 e4, ← capU_eq (by show d.qu.length - 1 - j ≤ _; omega)]; exact e5
    clear e5
    obtain ⟨u, hu⟩ : ∃ u, underK keep d.qu.length = u := ⟨_, rfl⟩
    rw [hu] at hH
    have hW : DkAt W' L d := ⟨qv, HM2.out.keep fun b hb => hF.same b (HM2.out.lt hb) fun e => by have := HZ.out b hb; omega⟩
    have s3 : w3.heap.size ≤ W'.heap.size := hF.size
    have n3 : W'.heap[bk]? = some (.cells #[kv] 35 (0, 0)) := (hF.same bk (by omega) (by omega)).trans Hk2.out
    have n5 : W'.heap[b5]? = some (.cells #[.func (.func 40) #[] #[PT bk]] 80 (0, 0)) := (hF.same b5 (by omega) (by omega)).trans H52.out
    have nS : SlV1 KBo 1 W' kv keep := HS2.out.keep hF.size fun g hg => hF.same g (by have := HKz.out g hg; omega) (by have := HKz.out g hg; omega)
    have HD := Lib.hid (doesC_any hW b6 b5 (livesK keep d.qu.length) fun V hV k hk => by
      have sv : W'.heap.size ≤ V.heap.size := hV.size
      have hs : ∀ b, b < W'.heap.size → Z ≤ b → V.heap[b]? = W'.heap[b]? := fun b h1 h2 => hV.same b h1 fun e => by have := HZ.out b e; omega
      have := lives_any (nS.keep hV.size fun g hg => hV.same g (by have := HKz.out g hg; omega) (HKo.out g hg)) bk b5 b6 k u ((hs bk (by omega) (by omega)).trans n3) ((hs b5 (by omega) (by omega)).trans n5) ((hs b6 (by omega) (by omega)).trans hH)
      unfold livesK
      rw [hu]
      exact this)
    have hDz : w3.heap.size ≤ D := hD
    have f3 := F3.out.trans (Frm.mono (G := fun b => Z ≤ b) hF fun b hb => by omega)
    have HDv := Lib.hid (show Dv L w L W' from ⟨f3.os, f3.tape, f3.output, f3.size, fun b h1 _ => f3.same b h1 (by have := e3.out; omega), rfl, rfl, fun _ h => Or.inl h⟩)
    have hKc := Lib.hid hK
    clear n3 n5 nS hH hW f3 hK
    go_wp2_with (go_at_call 42; (with_reducible refine HD.out.mono ?_); rintro e w9 ⟨rfl, L', hW9, hV9⟩; obtain ⟨qv9, hM9⟩ := hW9.out; obtain ⟨⟨c0, c1, c2, c3, c4, c5⟩, hf9, hz9⟩ := hM9.cells; have g2 := hf9 2; have g3 := hf9 3; have g4 := hf9 4; have epp := hV9.pp; rw [epp] at c2 c3 c4 g2 g3 g4 hz9; clear hf9 c0 c1 c5 hW9; replace hM9 := Lib.hid hM9; replace hV9 := Lib.hid hV9; replace epp := Lib.hid epp)
    have hDW : D < W'.heap.size := (Array.getElem?_eq_some_iff.1 hKc.out).1
    have hDZ : Z ≤ D := by have := e3.out; omega
    have hDp : D ≠ L.p := by
      have := HZ.out L.p (Or.inl rfl)
      omega
    have hD9 : w9.heap[D]? = some (.deferred (some [])) := (hV9.out.same D hDW fun e => by have := HZ.out D e; omega).trans hKc.out
    obtain ⟨Wf, hWf⟩ : ∃ Wf, ((w9.setCell ⟨L.p, 4, none⟩ (.bool false)).setCell ⟨L.p, 2, none⟩ (I (-1))).setCell ⟨L.p, 3, none⟩ (I (-1)) = Wf := ⟨_, rfl⟩
    have hKf : Wf.heap[D]? = some (.deferred (some [])) := by
      rw [← hWf]
      exact (setCell_heap _ hDp).trans ((setCell_heap _ hDp).trans ((setCell_heap _ hDp).trans hD9))
    have hMf : DkM Wf L' (crashD d keep) qv9 := by
      have h3 := ((hM9.out.setDark false).setAr (x := -1) (by omega) (by omega)).setDm (x := -1) (by omega) (by omega)
      rw [epp.out, hWf] at h3
      exact h3
    have hVf : Dv L w L' Wf := by
      have h3 := (((HDv.out.trans hV9.out).setP 4 (.bool false)).setP 2 (I (-1))).setP 3 (I (-1))
      rw [epp.out, hWf] at h3
      exact h3
    rw [hWf]
    refine ⟨by simp, .inl ⟨_, _, rfl, run_takeDeferred hKf, ?_⟩⟩
    have hg := grownBy_putObj' Wf D (.deferred none)
    refine ⟨_, results_tmp rfl _ _ _, L', rfl, ⟨qv9, hMf.keep fun b hb => hg.block b (hMf.lt hb) fun e => ?_⟩, hVf.frm (F := fun b => b = D) ⟨hg.os, hg.tape, hg.output, hg.size, fun b h1 h2 => hg.block b h1 fun e => h2 (Option.some.inj e)⟩ fun b hb => by have := e3.out; omega⟩
    have hbD : b = D := Option.some.inj e
    rcases hV9.out.own hb with h9 | h9
    · have := HZ.out b h9; omega
    · omega
end Go.Proofs.Ytdohohafdplkiaa
