import Derived.Test.YtdohohafdplkiaaMDkDm

/- All sectors, behind a crash that does all of the queue. -/
set_option linter.unusedSimpArgs false
set_option linter.unusedVariables false
set_option maxRecDepth 20000
namespace Go.Proofs.Ytdohohafdplkiaa
open Go.RowKit
theorem rdn_dv {N : Nat → Prop} {w w' : World} {L L' : Loc} {v : Value} {d : Dk} (h : RdN N w v d) (hN : ∀ g, N g → ¬ L.own g ∧ g < w.heap.size) (k : Dv L w L' w') : RdN N w' v d :=
  h.keep k.size fun g hg => k.same g (hN g hg).2 (hN g hg).1
theorem allk {n j : Nat} (h : j < n) : keptL (dL n fun i => decide (i < n)) j = true := by rw [keptL_dL _ h]; exact decide_eq_true h
set_option maxHeartbeats 4000000 in
theorem sectors_any {N : Nat → Prop} {w : World} {L : Loc} {d : Dk} {v : Value} (h : DkAt w L d) (hv : RdN N w v d) (hN : ∀ g, N g → ¬ L.own g ∧ g < w.heap.size) (hops : d.ops < 1000000) :
    Calls Try.prog 16 #[PT L.p, v] w fun e w' => e = .returned (.bool true) ∧ ∃ L' d', DkAt w' L' d' ∧ Dv L w L' w' := by
  obtain ⟨hv', qv, rfl, o1, o2, h1, h2, _, _⟩ := hv.out
  obtain ⟨ah, ch, rfl, ch1, ch2, ch3, hH⟩ := id h1.out
  obtain ⟨aq, cq, rfl, cq1, cq2, cq3, hQ⟩ := id h2.out
  obtain ⟨n, hn⟩ : ∃ n, d.has.length = n := ⟨_, rfl⟩
  obtain ⟨nq, hnq⟩ : ∃ nq, d.qu.length = nq := ⟨_, rfl⟩
  have hq6 : nq ≤ 1000000 := by rw [← hnq]; exact h.ok.qn
  have hn2 : n ≤ 2048 := by rw [← hn]; exact h.ok.n2
  rw [hn] at ch1 hv ⊢
  rw [hnq] at cq1 hv ⊢
  obtain ⟨W2, hw2⟩ : ∃ W2, w.alloc (.cells #[.slice ah n ch, .slice aq nq cq, I d.ar, I d.dm, .bool d.dark, I (d.ops : Nat)] 32) = W2 := ⟨_, rfl⟩
  have k2 : Ex w W2 := by rw [← hw2]; exact ex_alloc (ex_refl _) _
  have b2 : W2.heap[w.heap.size]? = some (.cells #[.slice ah n ch, .slice aq nq cq, I d.ar, I d.dm, .bool d.dark, I (d.ops : Nat)] 32 (0, 0)) := by rw [← hw2]; exact heap_alloc_new w _
  have hs2 : W2.heap.size = w.heap.size + 1 := by rw [← hw2, World.size_alloc]
  obtain ⟨g, hg⟩ : ∃ g, W2.heap.size = g := ⟨_, rfl⟩
  have hgl : w.heap.size < g := by omega
  have H0 := Lib.hid (ownN_new (w := W2) hq6 (ex_refl _))
  rw [hg] at H0
  have hown : Hid (∀ b, L.own b → b < w.heap.size) := Lib.hid fun b hb => h.lt hb
  have HCr := Lib.hid (fun W (k : Ex w W) (hO : OwnN W g g nq (fun i => decide (i < nq))) (hz : g < W.heap.size) => crash_any (h.ex k) (.slice (some ⟨g, 0, none⟩) nq nq) (dL nq fun i => decide (i < nq)) hO.read (fun g' hg' => by
    obtain rfl : g = g' := Option.some.inj hg'
    exact ⟨fun e => by have := h.lt e; omega, hz⟩))
  have hva : Hid (∀ i, i < n → (viewD d (dL nq fun i => decide (i < nq))).getD i zeroB = readsD d i) := Lib.hid fun i hi => by
    rw [List.getD_eq_getElem?_getD, view_all h.ok (fun j hj => allk (by omega)) (by omega)]; rfl
  obtain ⟨kp', hkp⟩ : ∃ kp', (dL nq fun i => decide (i < nq)) = kp' := ⟨_, rfl⟩
  rw [hkp] at HCr hva
  have hok := Lib.hid h.ok
  have Hv := Lib.hid hv
  have HN := Lib.hid hN
  have K2 := Lib.hid k2
  have Hw2 := Lib.hid hw2
  have Hg := Lib.hid hg
  have B2 := Lib.hid b2
  have Hn := Lib.hid hn
  have Hnq := Lib.hid hnq
  have Hkp := Lib.hid hkp
  obtain ⟨c1, f1⟩ := block_cell (o := 1) b2 rfl
  have z2 := (Array.getElem?_eq_some_iff.1 b2).1
  have hc0 := Lib.hid (show w.heap.size + 1 = g by omega)
  unfold maxLen at ch2 cq2
  clear h hv hN h1 h2 hH hQ hw2 k2 hg b2 hs2 hn hnq hkp ch3
  go_enter Try.func16, Try.ntmps16
  go_wp2
  rw [Hw2.out, hc0.out]
  go_loopw [16] (fun i W => ∃ k : Nat, k ≤ nq ∧ i = I k ∧ Hid (OwnN W g g nq (fun i => decide (i < k))) ∧ Hid (Ex W2 W)) (fun i _ => nq - (intOf i).toNat)
  case atStart => exact ⟨0, by omega, rfl, Lib.hid (H0.out.congr fun i _ => by simp), Lib.hid (ex_alloc (ex_refl _) _)⟩
  case round =>
    obtain ⟨k, hk, rfl, hO, hX⟩ := hrel
    by_cases hlt : k < nq
    · have hlt2 : (k : Int) < nq := by omega
      obtain ⟨d1, d2, d3, d4⟩ := hO.out.at hlt
      have hS := hO.out.set hlt
      have hO2 : Hid (OwnN (wr.setCell ⟨g, k, none⟩ (.bool true)) g g nq (fun i => decide (i < k + 1))) := Lib.hid (hS.1.congr fun i _ => by
        rw [Bool.eq_iff_iff]; simp; omega)
      have hX2 : Hid (Ex W2 (wr.setCell ⟨g, k, none⟩ (.bool true))) := Lib.hid (ex_of_below ((ex_below hX.out).trans (by rw [Hg.out]; exact hS.2)))
      clear hS
      go_wp2
      exact ⟨⟨k + 1, by omega, by go_num, hO2, hX2⟩, by simp [intOf]; omega⟩
    · have hkn : k = nq := by omega
      subst k
      generalize wr = W9 at *
      have k9 := ex_trans K2.out hX.out
      have z9 : g < W9.heap.size := by
        rcases hO.out.2 with ⟨e, _⟩ | ⟨g', _, _, e, _, hb, _⟩
        · cases e
        · have e2 : g = g' := by simp at e; exact e.1
          subst e2
          exact (Array.getElem?_eq_some_iff.1 hb).1
      have HC := Lib.hid (HCr.out W9 k9 hO.out z9)
      have B9 := ex_block hX.out B2.out
      have hb9 : ¬ L.own w.heap.size := fun e => by have := hown.out _ e; omega
      have HK : Hid (∀ W L', Dv L W9 L' W → W.heap[w.heap.size]? = some (.cells #[.slice ah n ch, .slice aq nq cq, I d.ar, I d.dm, .bool d.dark, I (d.ops : Nat)] 32 (0, 0)) ∧ RdV W (.agg #[.slice ah n ch, .slice aq nq cq, I d.ar, I d.dm, .bool d.dark, I (d.ops : Nat)]) d) := Lib.hid fun W L' hD =>
        ⟨(hD.same _ (Array.getElem?_eq_some_iff.1 B9).1 hb9).trans B9, (rdn_dv (Hv.out.ex k9) (fun g hg => ⟨(HN.out g hg).1, Nat.lt_of_lt_of_le (HN.out g hg).2 (ex_size k9)⟩) hD).rd⟩
      replace k9 := Lib.hid k9
      clear hlt B9
      go_wp2_with (go_at_call 18; (with_reducible refine HC.out.mono ?_); rintro e w10 ⟨L1, rfl, hW, hD⟩; obtain ⟨B10, R10⟩ := HK.out _ _ hD; obtain ⟨c0, _⟩ := block_cell (o := 0) B10 rfl; have z10 := (Array.getElem?_eq_some_iff.1 B10).1; replace B10 := Lib.hid B10; replace R10 := Lib.hid R10; replace hW := Lib.hid hW; replace hD := Lib.hid hD)
      go_loopw [30] (fun i W => ∃ k : Nat, k ≤ n ∧ i = I k ∧ Hid (∃ L', DkAt W L' (vD d kp' (d.ops + k)) ∧ Dv L W9 L' W)) (fun i _ => n - (intOf i).toNat)
      case atStart => exact ⟨0, by omega, rfl, Lib.hid ⟨L1, hW.out, hD.out⟩⟩
      case round =>
        obtain ⟨k, hk, rfl, hS⟩ := hrel
        by_cases hlt : k < n
        · have hlt2 : (k : Int) < n := by omega
          have HR : Hid (Calls Try.prog 21 #[PT L.p, I k] wr fun e w' => e = .returned (.tuple #[.agg (rowB 64 (bkF (readsD d k))), I 0]) ∧ ∃ L', DkAt w' L' (vD d kp' (d.ops + (k + 1))) ∧ Dv L W9 L' w') := Lib.hid (by
            obtain ⟨L', a1, a2⟩ := hS.out
            have := read_any a1 k (by omega) (by omega) (show d.ops + k < _ by omega)
            rw [vD_read d kp' (d.ops + k) (by rw [Hn.out]; exact hlt), hva.out k hlt, a2.pp] at this
            refine this.mono fun e w' hh => ?_
            obtain ⟨L'', rfl, b1, b2⟩ := hh
            exact ⟨rfl, L'', b1, a2.trans b2⟩)
          go_wp2_with (go_at_call 21; (with_reducible refine HR.out.mono ?_); rintro e w11 ⟨rfl, hS2⟩; replace hS2 := Lib.hid hS2)
          obtain ⟨w12, hw12⟩ : ∃ w12, w11.alloc (.cells (rowB 64 (bkF (readsD d k))) 39) = w12 := ⟨_, rfl⟩
          obtain ⟨b8, hb8⟩ : ∃ b8, w11.heap.size = b8 := ⟨_, rfl⟩
          have k12 : Ex w11 w12 := by rw [← hw12]; exact ex_alloc (ex_refl _) _
          have B8 : w12.heap[b8]? = some (.cells (rowB 64 (bkF (readsD d k))) 39 (0, 0)) := by rw [← hw12, ← hb8]; exact heap_alloc_new _ _
          obtain ⟨n8, _⟩ := block_cells (n := 64) B8 (by simp)
          have z8 := (Array.getElem?_eq_some_iff.1 B8).1
          have HKw : w12.heap[w.heap.size]? = some (.cells #[.slice ah n ch, .slice aq nq cq, I d.ar, I d.dm, .bool d.dark, I (d.ops : Nat)] 32 (0, 0)) ∧ RdV w12 (.agg #[.slice ah n ch, .slice aq nq cq, I d.ar, I d.dm, .bool d.dark, I (d.ops : Nat)]) d := by
            obtain ⟨L', _, a2⟩ := hS2.out
            obtain ⟨e1, e2⟩ := HK.out _ _ a2
            exact ⟨ex_block k12 e1, e2.ex k12⟩
          obtain ⟨n3, _⟩ := block_cells (n := 6) HKw.1 rfl
          have z3 := (Array.getElem?_eq_some_iff.1 HKw.1).1
          have HRd := Lib.hid (fun W (kW : Ex w12 W) => reads_any (HKw.2.ex kW) (i := k) (by rw [Hn.out]; exact hlt) hok.out.qn)
          have K12 := Lib.hid k12
          have hE : eqF (bkF (readsD d k)) (bkF (readsD d k)) 64 = true := eqF_same _ _
          rw [hw12, hb8]
          clear hw12 hb8 k12 B8 HKw
          refine wp_region_fork (w12) (.look 0 (.look 1 (.look 2 (.look 3 (.look 4 (.look 5 (.eff 6 (.look 7 (.look 8 .done))))))))) (by (try show Ex _ _); repeat (first | (with_reducible exact ex_refl _) | (with_reducible assumption) | (with_reducible refine ex_drewL ?_) | (with_reducible refine ex_appR ?_ _) | (with_reducible refine ex_wx ?_ _) | (with_reducible refine ex_drew ?_) | (with_reducible refine ex_alloc ?_ _))) (by kernel_rfl) (by kernel_rfl) (fun _ _ d _ _ h => by cases d <;> exact h) ?_
          simp only [Fk.ops, nth]
          repeat (first | ((with_reducible refine wpFork_look ?_); go_big_quiet_step (fail); (try (with_reducible refine wpQuiet_nil ?_))) | (with_reducible refine wpFork_eff ?_) | ((with_reducible refine effT_F ?_ ?_); (focus rfl); go_simp) | ((with_reducible refine effT_T ?_ ?_); (focus rfl); (try dsimp only); go_wp2_with ((go_at_call 39; (with_reducible refine (HRd.out _ (by (try show Ex _ _); repeat (first | (with_reducible exact ex_refl _) | (with_reducible assumption) | (with_reducible refine ex_drewL ?_) | (with_reducible refine ex_appR ?_ _) | (with_reducible refine ex_wx ?_ _) | (with_reducible refine ex_drew ?_) | (with_reducible refine ex_alloc ?_ _)))).mono ?_); rintro e w13 ⟨rfl, X13, rfl⟩)); refine mixQ_mk (by (try show Ex _ _); repeat (first | (with_reducible exact ex_refl _) | (with_reducible assumption) | (with_reducible refine ex_drewL ?_) | (with_reducible refine ex_appR ?_ _) | (with_reducible refine ex_wx ?_ _) | (with_reducible refine ex_drew ?_) | (with_reducible refine ex_alloc ?_ _))) ?_))
          all_goals (with_reducible refine wpFork_nil ?_)
          go_wp2
          refine ⟨⟨k + 1, by omega, by go_num, Lib.hid ?_⟩, by simp [intOf]; omega⟩
          obtain ⟨L', a1, a2⟩ := hS2.out
          exact ⟨L', a1.ex (ex_trans K12.out (by (try show Ex _ _); repeat (first | (with_reducible exact ex_refl _) | (with_reducible assumption) | (with_reducible refine ex_drewL ?_) | (with_reducible refine ex_appR ?_ _) | (with_reducible refine ex_wx ?_ _) | (with_reducible refine ex_drew ?_) | (with_reducible refine ex_alloc ?_ _)))), a2.grow (ex_trans K12.out (by (try show Ex _ _); repeat (first | (with_reducible exact ex_refl _) | (with_reducible assumption) | (with_reducible refine ex_drewL ?_) | (with_reducible refine ex_appR ?_ _) | (with_reducible refine ex_wx ?_ _) | (with_reducible refine ex_drew ?_) | (with_reducible refine ex_alloc ?_ _))))⟩
        · have hkn : k = n := by omega
          subst k
          go_wp2
          go_ret
          obtain ⟨L', a1, a2⟩ := hS.out
          exact ⟨rfl, L', _, a1, (Dv.ofEx k9.out).trans a2⟩
end Go.Proofs.Ytdohohafdplkiaa
