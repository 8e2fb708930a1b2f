import Derived.Test.YtdohohafdplkiaaMDkDg

/- The document's disk: Sync. -/
set_option linter.unusedSimpArgs false
set_option linter.unusedVariables false
set_option maxRecDepth 20000
namespace Go.Proofs.Ytdohohafdplkiaa
open Go.RowKit
theorem sync_asked (d : Dk) : syncD d = if (askedD d 0 true).2 = 0 then ({ (askedD d 0 true).1 with has := doQ d.has 0 d.qu (fun _ => true), qu := [] }, 0) else askedD d 0 true := by
  unfold syncD askedD
  by_cases h : (reqD d 0 true).2 = 0
  · rw [if_pos h, if_pos h, if_pos rfl]; rfl
  · rw [if_neg h, if_neg h, if_neg h]
theorem asked_ok {d : Dk} (h : DkOk d) (ho : d.ops < 1000000000) (s : Int) (ch : Bool) : DkOk (askedD d s ch).1 := by
  unfold askedD
  split
  · exact inc_ok (req_ok h s ch) (by rw [(req_same d s ch).2.2]; exact ho)
  · exact req_ok h s ch
theorem keptL_dL {n k : Nat} (f : Nat → Bool) (h : k < n) : keptL (dL n f) k = f k := by
  unfold keptL; rw [List.getD_eq_getElem?_getD, dL_get n f h]; rfl
theorem doneD_all {d d' : Dk} {n : Nat} (hs : d'.has = d.has) (hq : d'.qu = d.qu) (hn : d.qu.length = n) : doneD d' (dL n fun i => decide (i < n)) = { d' with has := doQ d.has 0 d.qu fun _ => true, qu := [] } := by
  have h : doQ d'.has 0 d'.qu (keptL (dL n fun i => decide (i < n))) = doQ d.has 0 d.qu fun _ => true := by
    rw [hs, hq]
    refine doQ_congr _ _ _ fun j hj => ?_
    rw [Nat.zero_add, keptL_dL _ (by omega)]
    exact decide_eq_true (by omega)
  unfold doneD
  rw [h]
set_option maxHeartbeats 3000000 in
theorem sync_doc {N : Nat → Prop} {w : World} {v : Value} {d : Dk} (h : RdN N w v d) (hN : ∀ g, N g → g < w.heap.size) (hok : DkOk d) (hops : d.ops < 1000000000) :
    Calls Try.prog 36 #[v] w (PostNE N w (syncD d)) := by
  obtain ⟨hv, qv, rfl, o1, o2, s1, s2, m1, m2⟩ := h.out
  obtain ⟨w2, hw2⟩ : ∃ w2, (w.alloc (.cells #[hv, qv, I d.ar, I d.dm, .bool d.dark, I (d.ops : Nat)] 32)).alloc (.cells #[.slice none 0 0, .slice none 0 0, .int .i64 0, .int .i64 0, .bool false, .int .i64 0] 32) = w2 := ⟨_, rfl⟩
  have k2 : Ex w w2 := by rw [← hw2]; exact ex_alloc (ex_alloc (ex_refl _) _) _
  have HR : Hid (∀ W, Ex w2 W → (W.heap[w.heap.size]? = some (.cells #[hv, qv, I d.ar, I d.dm, .bool d.dark, I (d.ops : Nat)] 32 (0, 0))) ∧ (W.heap[w.heap.size + 1]? = some (.cells #[.slice none 0 0, .slice none 0 0, .int .i64 0, .int .i64 0, .bool false, .int .i64 0] 32 (0, 0)))) := Lib.hid fun W k => by
    rw [← hw2] at k
    refine ⟨ex_block (ex_trans (ex_alloc (ex_refl _) _) k) (heap_alloc_new w _), ?_⟩
    have := heap_alloc_new (w.alloc (.cells #[hv, qv, I d.ar, I d.dm, .bool d.dark, I (d.ops : Nat)] 32)) (.cells #[.slice none 0 0, .slice none 0 0, .int .i64 0, .int .i64 0, .bool false, .int .i64 0] 32)
    rw [World.size_alloc] at this
    exact ex_block k this
  have HA := Lib.hid (asked_doc (s1.ex k2) (s2.ex k2) 0 (by omega) (by omega) true ⟨hok.a1, hok.a2⟩ ⟨hok.d1, hok.d2⟩ hops)
  unfold rdvV at HA
  rw [sync_asked]
  have hsm : (askedD d 0 true).1.has = d.has ∧ (askedD d 0 true).1.qu = d.qu := asked_same d 0 true
  have hok' := asked_ok hok hops 0 true
  generalize askedD d 0 true = r at *
  obtain ⟨d', er⟩ := r
  simp only at HA hsm hok' ⊢
  have hw2s : w2.heap.size = w.heap.size + 2 := by rw [← hw2]; simp [go_sem]
  have HD : Hid (∀ W, Ex w W → RdN N W (.agg #[hv, qv, I d'.ar, I d'.dm, .bool d'.dark, I (d'.ops : Nat)]) d') := Lib.hid fun W k => RdN.mkG (by rw [hsm.1]; exact s1.ex k) (by rw [hsm.2]; exact s2.ex k) (fun e => m1 (by rwa [hsm.1] at e)) (fun e => m2 (by rwa [hsm.2] at e))
  replace hw2 := Lib.hid hw2
  replace k2 := Lib.hid k2
  replace h := Lib.hid h
  replace hok := Lib.hid hok
  replace hok' := Lib.hid hok'
  replace s1 := Lib.hid s1
  replace hsm := Lib.hid hsm
  replace hN := Lib.hid hN
  replace m1 := Lib.hid m1
  replace m2 := Lib.hid m2
  by_cases he : er = 0
  · subst he
    rw [if_pos rfl]
    obtain ⟨aq, cq, rfl, cq1, cq2, cq3, _⟩ := id s2.out
    obtain ⟨n, hn⟩ : ∃ n, d.qu.length = n := ⟨_, rfl⟩
    have hn6 : n ≤ 1000000 := by rw [← hn]; exact hok.out.qn
    rw [hn] at HA HR HD hw2 cq1 ⊢
    have hn := Lib.hid hn
    replace s2 := Lib.hid s2
    unfold maxLen at cq2
    go_enter Try.func36, Try.ntmps36
    go_wp2_with (go_at_call 56; rw [hw2.out]; (with_reducible refine HA.out.mono ?_); rintro e w3 ⟨rfl, k3⟩; have K3 : Hid (Ex w2 w3) := Lib.hid k3; clear k3; obtain ⟨B1, B2⟩ := HR.out _ K3.out; obtain ⟨c1, f1⟩ := block_cell (o := 1) B1 rfl; have z1 := (Array.getElem?_eq_some_iff.1 B1).1; replace B1 := Lib.hid B1; replace B2 := Lib.hid B2)
    obtain ⟨b4, hb4⟩ : ∃ b4, w3.heap.size = b4 := ⟨_, rfl⟩
    obtain ⟨W4, hW4⟩ : ∃ W4, w3.alloc (.cells #[hv, .slice aq n cq, I d'.ar, I d'.dm, .bool d'.dark, I (d'.ops : Nat)] 32) = W4 := ⟨_, rfl⟩
    have B4 : W4.heap[b4]? = some (.cells #[hv, .slice aq n cq, I d'.ar, I d'.dm, .bool d'.dark, I (d'.ops : Nat)] 32 (0, 0)) := by rw [← hW4, ← hb4]; exact heap_alloc_new _ _
    have hg : w3.heap.size + 1 = W4.heap.size := by rw [← hW4, World.size_alloc]
    have K4 : Hid (Ex w W4) := Lib.hid (by rw [← hW4]; exact ex_alloc (ex_trans k2.out K3.out) _)
    have B24 : Hid (W4.heap[w.heap.size + 1]? = some (.cells #[.slice none 0 0, .slice none 0 0, .int .i64 0, .int .i64 0, .bool false, .int .i64 0] 32 (0, 0))) := Lib.hid (by rw [← hW4]; exact ex_block (ex_alloc (ex_refl _) _) B2.out)
    have hlo : w.heap.size + 2 ≤ b4 := by have := ex_size K3.out; omega
    have hW4s : Hid (W4.heap.size = b4 + 1) := Lib.hid (by omega)
    rw [hg, hb4, hW4]
    obtain ⟨g, hgg⟩ : ∃ g, W4.heap.size = g := ⟨_, rfl⟩
    have H0 := Lib.hid (ownN_new (w := W4) hn6 (ex_refl _))
    have B44 := Lib.hid B4
    rw [hgg] at H0 hW4s ⊢
    have hbg : b4 < g := by have := hW4s.out; omega
    have hgh := Lib.hid hgg
    clear hg hW4 hb4 hgg B4
    go_loopw [21] (fun i W => ∃ k : Nat, k ≤ n ∧ i = I k ∧ Hid (OwnN W g g n (fun i => decide (i < k))) ∧ Hid (Ex W4 W)) (fun i _ => n - (intOf i).toNat)
    case atStart => exact ⟨0, by omega, rfl, Lib.hid (H0.out.congr fun i _ => by simp), Lib.hid (ex_alloc (ex_refl _) _)⟩
    case round =>
      obtain ⟨k, hk, rfl, hO, hX⟩ := hrel
      by_cases hlt : k < n
      · have hlt2 : (k : Int) < n := by omega
        obtain ⟨d1, d2, d3, d4⟩ := hO.out.at hlt
        have hS := hO.out.set hlt
        have hO2 : Hid (OwnN (wr.setCell ⟨g, k, none⟩ (.bool true)) g g n (fun i => decide (i < k + 1))) := Lib.hid (hS.1.congr fun i _ => by
          rw [Bool.eq_iff_iff]; simp; omega)
        have hX2 : Hid (Ex W4 (wr.setCell ⟨g, k, none⟩ (.bool true))) := Lib.hid (ex_of_below ((ex_below hX.out).trans (by rw [hgh.out]; exact hS.2)))
        clear hS
        go_wp2
        exact ⟨⟨k + 1, by omega, by go_num, hO2, hX2⟩, by simp [intOf]; omega⟩
      · have hkn : k = n := by omega
        subst k
        generalize wr = W9 at *
        have HDo := Lib.hid (do_doc (HD.out _ (ex_trans K4.out hX.out)).rd hok'.out (hO.out.read) (by rw [dL_len, ← hn.out, hsm.out.2]))
        have B49 := ex_block hX.out B44.out
        obtain ⟨n4, f4⟩ := block_cells (n := 6) B49 rfl
        have z4 := (Array.getElem?_eq_some_iff.1 B49).1
        replace B49 := Lib.hid B49
        clear hlt
        go_wp2_with (go_at_call 54; (with_reducible refine HDo.out.mono ?_); rintro e w10 ⟨v10, rfl, hV10, k10⟩; have K10 : Hid (Ex W9 w10) := Lib.hid k10; clear k10; obtain ⟨hv5, qv5, rfl, p1, p2, t1, t2, u1, u2⟩ := hV10.out; replace t1 := Lib.hid t1; replace t2 := Lib.hid t2; replace u1 := Lib.hid u1; replace u2 := Lib.hid u2; replace hV10 := Lib.hid hV10; have G4 := ex_block K10.out B49.out; have G2 := ex_block K10.out (ex_block hX.out B24.out); obtain ⟨n4, f4⟩ := block_cells (n := 6) G4 rfl; have z4 := (Array.getElem?_eq_some_iff.1 G4).1; obtain ⟨n2, f2⟩ := block_cells (n := 6) G2 rfl; have z2 := (Array.getElem?_eq_some_iff.1 G2).1; have G5 := setCells_block b4 32 (0, 0) [hv5, qv5, I (doneD d' (dL n fun i => decide (i < n))).ar, I (doneD d' (dL n fun i => decide (i < n))).dm, .bool (doneD d' (dL n fun i => decide (i < n))).dark, I ((doneD d' (dL n fun i => decide (i < n))).ops : Nat)] 0 w10 _ G4; have rE := (block_cells (n := 6) G5 rfl).1; replace G2 := Lib.hid G2; replace G4 := Lib.hid G4; replace G5 := Lib.hid G5)
        obtain ⟨x4, x2, xk⟩ := res_end (w := w) (c4 := #[hv5, qv5, I (doneD d' (dL n fun i => decide (i < n))).ar, I (doneD d' (dL n fun i => decide (i < n))).dm, .bool (doneD d' (dL n fun i => decide (i < n))).dark, I ((doneD d' (dL n fun i => decide (i < n))).ops : Nat)]) (c5 := #[hv5, qv5, I (doneD d' (dL n fun i => decide (i < n))).ar, I (doneD d' (dL n fun i => decide (i < n))).dm, .bool (doneD d' (dL n fun i => decide (i < n))).dark, I ((doneD d' (dL n fun i => decide (i < n))).ops : Nat)]) G4.out G2.out (by omega) (by omega) (by omega) (ex_trans K4.out (ex_trans hX.out K10.out)) rfl rfl
        have hE := doneD_all hsm.out.1 hsm.out.2 hn.out
        have hz9 : w.heap.size + 2 ≤ W9.heap.size ∧ b4 < W9.heap.size := by
          have := (Array.getElem?_eq_some_iff.1 B49.out).1
          omega
        have hRd := hV10.out.keep (w' := (w10.setCells b4 0 [hv5, qv5, I (doneD d' (dL n fun i => decide (i < n))).ar, I (doneD d' (dL n fun i => decide (i < n))).dm, .bool (doneD d' (dL n fun i => decide (i < n))).dark, I ((doneD d' (dL n fun i => decide (i < n))).ops : Nat)]).setCells (w.heap.size + 1) 0 [hv5, qv5, I (doneD d' (dL n fun i => decide (i < n))).ar, I (doneD d' (dL n fun i => decide (i < n))).dm, .bool (doneD d' (dL n fun i => decide (i < n))).dark, I ((doneD d' (dL n fun i => decide (i < n))).ops : Nat)]) (by rw [setCells_size, setCells_size]; exact Nat.le_refl _) (fun g hg => by
          have hg : W9.heap.size ≤ g := hg.elim (fun h => h.elim) id
          rw [setCells_heap _ _ _ _ _ (by omega), setCells_heap _ _ _ _ _ (by omega)])
        refine ret_rowV Try.results36 Try.underlying32 rfl info_rdk rfl (block_cells x2 rfl).1 rfl rfl ⟨_, rfl, ?_, xk⟩
        rw [hE] at hRd ⊢
        exact hRd.mono fun g hg => Or.inr (by have : W9.heap.size ≤ g := hg.elim (fun h => h.elim) id; omega)
  · rw [if_neg he]
    have heb : (er == 0) = false := by simpa using he
    replace s2 := Lib.hid s2
    go_enter Try.func36, Try.ntmps36
    go_wp2_with (go_at_call 56; rw [hw2.out]; (with_reducible refine HA.out.mono ?_); rintro e w3 ⟨rfl, k3⟩; obtain ⟨B1, B2⟩ := HR.out _ k3; obtain ⟨n2, f2⟩ := block_cells (n := 6) B2 rfl; have z2 := (Array.getElem?_eq_some_iff.1 B2).1; replace B1 := Lib.hid B1; replace B2 := Lib.hid B2; have K3 : Hid (Ex w2 w3) := Lib.hid k3; clear k3)
    have G6 := setCells_block (w.heap.size + 1) 32 (0, 0) [hv, qv, I d'.ar, I d'.dm, .bool d'.dark, I (d'.ops : Nat)] 0 w3 _ B2.out
    have KE : Ex w (w3.setCells (w.heap.size + 1) 0 [hv, qv, I d'.ar, I d'.dm, .bool d'.dark, I (d'.ops : Nat)]) := ex_setCellsK (ex_trans k2.out K3.out) (by omega) _ _
    exact ret_rowV (cs := #[hv, qv, I d'.ar, I d'.dm, .bool d'.dark, I (d'.ops : Nat)]) Try.results36 Try.underlying32 rfl info_rdk rfl (block_cells (ex_block (ex_alloc (ex_refl _) _) G6) rfl).1 rfl rfl ⟨_, rfl, (HD.out _ (ex_alloc KE _)).mono fun g hg => Or.inl hg, ex_alloc KE _⟩
end Go.Proofs.Ytdohohafdplkiaa
