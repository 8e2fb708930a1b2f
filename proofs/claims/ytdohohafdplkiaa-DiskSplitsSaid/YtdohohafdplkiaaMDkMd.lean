import Derived.Test.YtdohohafdplkiaaMDkDp

/- DiskSplits, walked. -/
set_option linter.unusedSimpArgs false
set_option linter.unusedVariables false
set_option maxRecDepth 20000
namespace Go.Proofs.Ytdohohafdplkiaa
open Go.RowKit
theorem ex_dv {w W W' : World} {L L' : Loc} (h : Ex w W) (ho : ∀ c, L.own c → w.heap.size ≤ c) (k : Dv L W L' W') : Ex w W' := ex_of_below ((ex_below h).trans (k.below (ex_size h) ho))
theorem St1.split {B0 V : World} {L Lc : Loc} {N : Nat → Prop} {hv qv : Value} {d : Dk} {q : Nat} (L2 : DkAt B0 L d) (L7 : RdN N B0 (.agg (rowD hv qv d)) d) (L8 : ∀ g, N g → ¬ L.own g ∧ g < B0.heap.size) (k : Ex B0 V) (hc : DkAt V Lc d) (hco : ∀ c, Lc.own c → B0.heap.size ≤ c) (hq : B0.heap.size ≤ q) (hn : ¬ Lc.own q) (hV : V.heap[q]? = some (.cells (rowD hv qv d) 32 (0, 0))) : St1 L.own B0 V Lc.p q d d :=
  ⟨k, fun g hg => L2.lt hg, Lc, hv, qv, N, rfl, hc, hco, hq, hn, hV, L7.ex k, fun g hg => ⟨fun e => by have := hco g e; have := (L8 g hg).2; omega, by have := (L8 g hg).2; omega, Nat.lt_of_lt_of_le (L8 g hg).2 (ex_size k), (L8 g hg).1⟩⟩
theorem St1.other {F : Nat → Prop} {w W : World} {p b : Nat} {d : Dk} (h : St1 F w W p b d d) (hops : d.ops < 1000000) {L : Loc} (hF : ∀ g, L.own g → F g) : ∃ hv qv, W.heap[b]? = some (.cells (rowD hv qv d) 32 (0, 0)) ∧ hv.oneCell' = true ∧ qv.oneCell' = true ∧
    ∀ L' W0 W', Ex W W0 → Dv L W0 L' W' → W'.heap[b]? = some (.cells (rowD hv qv d) 32 (0, 0)) ∧ ∀ W2, Ex W' W2 → Calls Try.prog 16 #[PT p, .agg (rowD hv qv d)] W2 fun e w' => e = .returned (.bool true) ∧ ∃ L2 L2', Dv L2 W2 L2' w' ∧ ∀ c, L2.own c → w.heap.size ≤ c := by
  obtain ⟨L2, hv, qv, N, h1, h2, h3, h4, h5, h6, h7, h8⟩ := h.out
  obtain ⟨hv', qv', e, o1, o2, _⟩ := h7.out
  obtain ⟨rfl, rfl⟩ : hv = hv' ∧ qv = qv' := by unfold rowD at e; simp at e; exact ⟨e.1, e.2⟩
  refine ⟨hv, qv, h6, o1, o2, fun L' W0 W' k kd => ?_⟩
  have hz := (Array.getElem?_eq_some_iff.1 h6).1
  have hs := ex_size k
  have hlt : ∀ g, L.own g → g < w.heap.size := fun g hg => h.fl g (hF g hg)
  refine ⟨(kd.same b (by omega) fun e => by have := hlt b e; omega).trans (ex_block k h6), fun W2 k2 => ?_⟩
  have ha : DkAt W' L2 d := (h2.ex k).apart kd fun c hc e => by have := h3 c hc; have := hlt c e; omega
  have hr := rdn_dv (h7.ex k) (fun g hg => ⟨fun e => (h8 g hg).2.2.2 (hF g e), Nat.lt_of_lt_of_le (h8 g hg).2.2.1 hs⟩) kd
  have := sectors_any (ha.ex k2) (hr.ex k2) (fun g hg => ⟨(h8 g hg).1, Nat.lt_of_lt_of_le (h8 g hg).2.2.1 (Nat.le_trans hs (Nat.le_trans kd.size (ex_size k2)))⟩) hops
  rw [h1] at this
  refine this.mono fun e w' hh => ?_
  obtain ⟨rfl, L3, d3, _, a2⟩ := hh
  exact ⟨rfl, L2, L3, a2, h3⟩
set_option maxHeartbeats 1500000 in
theorem splits_any {w : World} {v v' : Value} {m m' : List (Ak × Value)} (h : AksV w v m) (h' : AksV w v' m') (n0 : Int) : Calls Try.prog 5 #[I n0, v, v'] w (Post w (.bool true)) := by
  obtain ⟨a, c, rfl, h1, h2, h3, hr⟩ := h.row.out
  obtain ⟨a', c', rfl, h1', h2', h3', hr'⟩ := h'.row.out
  obtain ⟨s, hs⟩ : ∃ s, sizeN n0 = s := ⟨_, rfl⟩
  have hsb := sizeN_le n0
  have HSz := Lib.hid (fun W => size_any n0 W)
  rw [hs] at hsb HSz
  obtain ⟨s1, s2⟩ := hsb
  have HW := Lib.hid (wakes_any w)
  have HN := Lib.hid (fun W (k : Ex w W) => new_o (w := w) s s1 (by omega) k)
  have HM := Lib.hid (fun W => made_any s s1 (by omega) W)
  have HR := Lib.hid hr
  have HA := Lib.hid h
  have HR' := Lib.hid hr'
  have HA' := Lib.hid h'
  unfold maxLen at h2 h2'
  clear h hr h3 h' hr' h3'
  obtain ⟨n, hn⟩ : ∃ n, m.length = n := ⟨_, rfl⟩
  have HL := Lib.hid hn
  rw [hn] at h1 ⊢
  obtain ⟨n', hn'⟩ : ∃ n', m'.length = n' := ⟨_, rfl⟩
  have HL' := Lib.hid hn'
  rw [hn'] at h1' ⊢
  replace hs := Lib.hid hs
  clear hn hn'
  go_enter Try.func5, Try.ntmps5
  go_wp2_with (first | (go_at_call 9; (with_reducible refine HW.out.mono ?_); rintro e w1 ⟨rfl, X1, rfl⟩) | (go_at_call 11; (with_reducible refine (HSz.out _).mono ?_); rintro e w2 ⟨rfl, X2, rfl⟩) | (go_at_call 10; (with_reducible refine (HN.out _ (by (try show Ex _ _); repeat (first | (with_reducible exact ex_refl _) | (with_reducible assumption) | (with_reducible refine ex_drewL ?_) | (with_reducible refine ex_appR ?_ _) | (with_reducible refine ex_wx ?_ _) | (with_reducible refine ex_drew ?_) | (with_reducible refine ex_alloc ?_ _)))).mono ?_); rintro e w3 ⟨p, rfl, h3⟩; replace h3 := Lib.hid h3) | (go_at_call 12; (with_reducible refine (HM.out _).mono ?_); rintro e w5 ⟨v5, rfl, hV5, k5⟩; have k35 : Ex w3 w5 := ex_trans (by (try show Ex _ _); repeat (first | (with_reducible exact ex_refl _) | (with_reducible assumption) | (with_reducible refine ex_drewL ?_) | (with_reducible refine ex_appR ?_ _) | (with_reducible refine ex_wx ?_ _) | (with_reducible refine ex_drew ?_) | (with_reducible refine ex_alloc ?_ _))) k5; obtain ⟨hv5, qv5, e5, o1, o2, hS⟩ := St1.start (dm := newD s) h3.out k35 (hV5.mono fun g hg => hg.elim (fun h => h.elim) fun h => Or.inr (Nat.le_trans (ex_size (by (try show Ex _ _); repeat (first | (with_reducible exact ex_refl _) | (with_reducible assumption) | (with_reducible refine ex_drewL ?_) | (with_reducible refine ex_appR ?_ _) | (with_reducible refine ex_wx ?_ _) | (with_reducible refine ex_drew ?_) | (with_reducible refine ex_alloc ?_ _)))) h)); unfold rowD at e5; subst e5; unfold rowD at hS; replace hS := Lib.hid hS; clear hV5 k5))
  obtain ⟨W0, hW0⟩ : ∃ W0, w5.alloc (.cells #[hv5, qv5, I (newD s).ar, I (newD s).dm, .bool (newD s).dark, I ((newD s).ops : Nat)] 32) = W0 := ⟨_, rfl⟩
  obtain ⟨b, hb⟩ : ∃ b, w5.heap.size = b := ⟨_, rfl⟩
  have H0 : Hid (St1 (fun _ => False) w W0 p b (newD s) (newD s)) := Lib.hid (by rw [← hW0, ← hb]; exact hS.out)
  rw [hW0, hb]
  clear hS hW0 hb h3 k35
  obtain ⟨l, hl⟩ : ∃ l, m.map (·.1) = l := ⟨_, rfl⟩
  have Hl := Lib.hid hl
  obtain ⟨l', hl'⟩ : ∃ l', m'.map (·.1) = l' := ⟨_, rfl⟩
  have Hl' := Lib.hid hl'
  clear hl hl'
  go_loopw [35] (fun i W => ∃ k : Nat, k ≤ n ∧ i = I k ∧ Hid (St1 (fun _ => False) w W p b (asksD (newD s) ((l.take k).take 50)) (asksD (newD s) ((l.take k).take 50)))) (fun i _ => n - (intOf i).toNat)
  case atStart => exact ⟨0, by omega, rfl, H0⟩
  case round =>
    obtain ⟨k, hk, rfl, hSt⟩ := hrel
    have hB : AsK 100 (asksD (newD s) ((l.take k).take 50)) := asks_k (Nat.le_trans (by rw [List.length_take]; omega) (show 50 ≤ 100 by omega))
    by_cases hlt : k < n
    · have hlt2 : (k : Int) < n := by omega
      have hkm : k < m.length := by rw [HL.out]; exact hlt
      obtain ⟨x, hx⟩ : ∃ x, m[k]? = some x := ⟨_, List.getElem?_eq_getElem hkm⟩
      have hxm : x ∈ m := List.mem_of_getElem? hx
      obtain ⟨g, off, rfl, hg, _⟩ := HR.out.pos (by rw [HL.out]; omega)
      obtain ⟨hc, _⟩ := (HR.out.ex hSt.out.ex).at hx
      have hgr := Nat.lt_of_lt_of_le hg (ex_size hSt.out.ex)
      have hkv : x.2.oneCell' = true := by obtain ⟨ka, kc, e, _⟩ := (HA.out.keep x hxm).out; rw [e]; rfl
      have hkp := Lib.hid (HA.out.keep x hxm)
      have hab := Lib.hid (HA.out.ok x hxm)
      have hst : Hid (asksD (newD s) ((l.take (k + 1)).take 50) = if k < 50 then (askD x.1 (asksD (newD s) ((l.take k).take 50))).1 else asksD (newD s) ((l.take k).take 50)) := Lib.hid (by
        have hlk : l[k]? = some x.1 := by rw [← Hl.out, List.getElem?_map, hx]; rfl
        have hkl := (List.getElem?_eq_some_iff.1 hlk).1
        rw [List.take_take, List.take_take]
        split
        · rw [Nat.min_eq_right (by omega), Nat.min_eq_right (by omega), List.take_succ_eq_append_getElem hkl, (List.getElem?_eq_some_iff.1 hlk).2]
          unfold asksD
          rw [List.foldl_append]; rfl
        · rw [Nat.min_eq_left (by omega), Nat.min_eq_left (by omega)])
      unfold KA at hc
      have hok := Lib.hid hSt.out.ok
      generalize asksD (newD s) ((l.take k).take 50) = d at *
      obtain ⟨hB1, hB2⟩ := hB
      by_cases h50 : k < 50
      · have e50 : (k : Int) < 50 := by omega
        rw [if_pos h50] at hst
        have HOf := Lib.hid (fun W (kW : Ex wr W) => hSt.out.of kW x.1 x.2 (hkp.out.ex (ex_trans hSt.out.ex kW)) hab.out (by omega) (by omega))
        obtain ⟨r, hr⟩ : ∃ r, askD x.1 d = r := ⟨_, rfl⟩
        rw [hr] at HOf hst
        unfold AV at HOf
        replace hr := Lib.hid hr
        obtain ⟨d', bl, er⟩ := r
        simp only at HOf hst
        clear hx hxm hkm
        go_wp2_with (first | (go_at_call 14; (with_reducible refine (HOf.out _ (by (try show Ex _ _); repeat (first | (with_reducible exact ex_refl _) | (with_reducible assumption) | (with_reducible refine ex_drewL ?_) | (with_reducible refine ex_appR ?_ _) | (with_reducible refine ex_wx ?_ _) | (with_reducible refine ex_drew ?_) | (with_reducible refine ex_alloc ?_ _)))).mono ?_); rintro e w6 ⟨rfl, h6, g6⟩; have r9 := (g6 wr.heap.size (Nat.le_refl _) (by simp [go_sem])).trans (heap_alloc_new wr _); have n9 := (block_cells (n := 4) r9 rfl).1; have z9 := (Array.getElem?_eq_some_iff.1 r9).1; clear g6 r9; obtain ⟨hv6, qv6, hb6, q1, q2, HSa⟩ := h6.said hok.out (by omega) (by omega) (hkp.out.ex h6.ex) hab.out; rw [hr.out] at HSa; unfold rowD at hb6 HSa; unfold AV at HSa; have n6 := (block_cells (n := 6) hb6 rfl).1; have z6 := (Array.getElem?_eq_some_iff.1 hb6).1; replace HSa := Lib.hid HSa; replace hb6 := Lib.hid hb6; replace h6 := Lib.hid h6) | (go_at_call 15; (with_reducible refine (HSa.out _ (by (try show Ex _ _); repeat (first | (with_reducible exact ex_refl _) | (with_reducible assumption) | (with_reducible refine ex_drewL ?_) | (with_reducible refine ex_appR ?_ _) | (with_reducible refine ex_wx ?_ _) | (with_reducible refine ex_drew ?_) | (with_reducible refine ex_alloc ?_ _)))).mono ?_); rintro e w8 ⟨hv8, qv8, rfl, p1, p2, k8, hS1, hS2⟩; obtain ⟨n7, f7⟩ := block_cells (n := 6) (ex_block k8 hb6.out) rfl; have z7 := (Array.getElem?_eq_some_iff.1 (ex_block k8 hb6.out)).1; replace hS1 := Lib.hid hS1; clear hS2 k8))
        refine ⟨⟨k + 1, by omega, by go_num, Lib.hid ?_⟩, by simp [intOf]; omega⟩
        rw [hst.out]
        exact hS1.out
      · have e50 : ¬ (k : Int) < 50 := by omega
        rw [if_neg h50] at hst
        clear hx hxm hkm
        go_wp2
        refine ⟨⟨k + 1, by omega, by go_num, Lib.hid ?_⟩, by simp [intOf]; omega⟩
        rw [hst.out]
        exact hSt.out.grow (by (try show Ex _ _); repeat (first | (with_reducible exact ex_refl _) | (with_reducible assumption) | (with_reducible refine ex_drewL ?_) | (with_reducible refine ex_appR ?_ _) | (with_reducible refine ex_wx ?_ _) | (with_reducible refine ex_drew ?_) | (with_reducible refine ex_alloc ?_ _)))
    · have hkn : k = n := by omega
      subst k
      have hD : DkB 50 (asksD (newD s) ((l.take n).take 50)) := by
        have := asks_b ((l.take n).take 50) (newd_b s)
        have hl : ((l.take n).take 50).length ≤ 50 := by rw [List.length_take]; omega
        exact ⟨by have := this.1; omega, by have := this.2; omega⟩
      clear hB
      generalize asksD (newD s) ((l.take n).take 50) = d at *
      obtain ⟨L, hvC, qvC, N, L1, L2, L3, L4, L5, L6, L7, L8⟩ := hSt.out.out
      have HCp := Lib.hid (fun W (k : Ex wr W) => copy_any (L2.ex k))
      rw [L1] at HCp
      have HT1 : Hid (∀ W', Ex wr W' → Calls Try.prog 13 #[PT p, .agg (rowD hvC qvC d)] W' (Post W' (.bool true))) := Lib.hid (by
        obtain ⟨_, _, e, _, _, ht⟩ := hSt.out.tells
        obtain ⟨rfl, rfl⟩ := row_det L6 e
        exact ht)
      have HS1 : Hid (∀ W', Ex wr W' → Calls Try.prog 16 #[PT p, .agg (rowD hvC qvC d)] W' fun e w' => e = .returned (.bool true) ∧ ∃ L' d', DkAt w' L' d' ∧ Dv L W' L' w') := Lib.hid fun W' k => by
        have := sectors_any (L2.ex k) (L7.ex k) (fun g hg => ⟨(L8 g hg).1, Nat.lt_of_lt_of_le (L8 g hg).2.2.1 (ex_size k)⟩) (by have := hD.2; omega)
        rwa [L1] at this
      have kB := hSt.out.ex
      unfold rowD at HT1 HS1
      have nC := (block_cells (n := 6) L6 rfl).1
      have zC := (Array.getElem?_eq_some_iff.1 L6).1
      unfold rowD at nC
      replace L2 := Lib.hid L2
      replace L6 := Lib.hid L6
      obtain ⟨hvx, qvx, ex, oC1, oC2, _⟩ := L7.out
      obtain ⟨rfl, rfl⟩ : hvC = hvx ∧ qvC = qvx := by unfold rowD at ex; simp at ex; exact ⟨ex.1, ex.2⟩
      replace L7 := Lib.hid L7
      replace L8 := Lib.hid L8
      clear hSt hk hlt H0
      obtain ⟨B0, eB⟩ : ∃ B0, B0 = wr := ⟨_, rfl⟩
      subst eB
      go_wp2
      refine wp_region_fork (B0) (.look 0 (.look 2 (.fork 1 (.eff 3 (.look 4 (.eff 5 .done))) 3 (.eff 1 (.look 4 (.eff 5 .done)))))) (by (try show Ex _ _); repeat (first | (with_reducible exact ex_refl _) | (with_reducible assumption) | (with_reducible refine ex_drewL ?_) | (with_reducible refine ex_appR ?_ _) | (with_reducible refine ex_wx ?_ _) | (with_reducible refine ex_drew ?_) | (with_reducible refine ex_alloc ?_ _))) (by kernel_rfl) (by kernel_rfl) (fun _ _ d _ _ h => by cases d <;> exact h) ?_
      simp only [Fk.ops, nth]
      repeat (first | ((with_reducible refine wpFork_look ?_); go_big_quiet_step (fail); (try (with_reducible refine wpQuiet_nil ?_))) | (with_reducible refine wpFork_eff ?_) | ((with_reducible refine effT_F ?_ ?_); (focus rfl); go_simp) | ((with_reducible refine effT_T ?_ ?_); (focus rfl); (try dsimp only); go_wp2_with ((go_at_call 29; (with_reducible refine (HCp.out _ (by (try show Ex _ _); repeat (first | (with_reducible exact ex_refl _) | (with_reducible assumption) | (with_reducible refine ex_drewL ?_) | (with_reducible refine ex_appR ?_ _) | (with_reducible refine ex_wx ?_ _) | (with_reducible refine ex_drew ?_) | (with_reducible refine ex_alloc ?_ _)))).mono ?_); rintro e wc ⟨Lc, rfl, hc, kc, hco⟩; (first | (have Bq := ex_block kc (heap_alloc_new B0 (.cells #[.slice none 0 0, .slice none 0 0, .int .i64 0, .int .i64 0, .bool false, .int .i64 0] 32)); obtain ⟨nq, fq⟩ := block_cells (n := 6) Bq rfl; have zq := (Array.getElem?_eq_some_iff.1 Bq).1; replace Bq := Lib.hid Bq) | skip); replace hc := Lib.hid hc; replace hco := Lib.hid hco; have kk := ex_trans (show Ex B0 _ from (by (try show Ex _ _); repeat (first | (with_reducible exact ex_refl _) | (with_reducible assumption) | (with_reducible refine ex_drewL ?_) | (with_reducible refine ex_appR ?_ _) | (with_reducible refine ex_wx ?_ _) | (with_reducible refine ex_drew ?_) | (with_reducible refine ex_alloc ?_ _)))) kc; have ks : Ex B0 (wc.setCells B0.heap.size 0 [hvC, qvC, I d.ar, I d.dm, .bool d.dark, I (d.ops : Nat)]) := ex_setCellsK kk (Nat.le_refl _) _ _; have ks2 : Ex B0 ((wc.alloc (.cells #[.slice none 0 0, .slice none 0 0, .int .i64 0, .int .i64 0, .bool false, .int .i64 0] 32)).setCells wc.heap.size 0 [hvC, qvC, I d.ar, I d.dm, .bool d.dark, I (d.ops : Nat)]) := ex_setCellsK (ex_alloc kk _) (ex_size kk) _ _; clear kc)); refine mixQ_mk (by (try show Ex _ _); repeat (first | (with_reducible exact ex_refl _) | (with_reducible assumption) | (with_reducible refine ex_drewL ?_) | (with_reducible refine ex_appR ?_ _) | (with_reducible refine ex_wx ?_ _) | (with_reducible refine ex_drew ?_) | (with_reducible refine ex_alloc ?_ _))) ?_))
      all_goals (try (with_reducible refine wpFork_fork ?_ ?_))
      all_goals repeat (first | ((with_reducible refine wpFork_look ?_); go_big_quiet_step (fail); (try (with_reducible refine wpQuiet_nil ?_))) | (with_reducible refine wpFork_eff ?_) | ((with_reducible refine effT_F ?_ ?_); (focus rfl); go_simp) | ((with_reducible refine effT_T ?_ ?_); (focus rfl); (try dsimp only); go_wp2_with ((go_at_call 29; (with_reducible refine (HCp.out _ (by (try show Ex _ _); repeat (first | (with_reducible exact ex_refl _) | (with_reducible assumption) | (with_reducible refine ex_drewL ?_) | (with_reducible refine ex_appR ?_ _) | (with_reducible refine ex_wx ?_ _) | (with_reducible refine ex_drew ?_) | (with_reducible refine ex_alloc ?_ _)))).mono ?_); rintro e wc ⟨Lc, rfl, hc, kc, hco⟩; (first | (have Bq := ex_block kc (heap_alloc_new B0 (.cells #[.slice none 0 0, .slice none 0 0, .int .i64 0, .int .i64 0, .bool false, .int .i64 0] 32)); obtain ⟨nq, fq⟩ := block_cells (n := 6) Bq rfl; have zq := (Array.getElem?_eq_some_iff.1 Bq).1; replace Bq := Lib.hid Bq) | skip); replace hc := Lib.hid hc; replace hco := Lib.hid hco; have kk := ex_trans (show Ex B0 _ from (by (try show Ex _ _); repeat (first | (with_reducible exact ex_refl _) | (with_reducible assumption) | (with_reducible refine ex_drewL ?_) | (with_reducible refine ex_appR ?_ _) | (with_reducible refine ex_wx ?_ _) | (with_reducible refine ex_drew ?_) | (with_reducible refine ex_alloc ?_ _)))) kc; have ks : Ex B0 (wc.setCells B0.heap.size 0 [hvC, qvC, I d.ar, I d.dm, .bool d.dark, I (d.ops : Nat)]) := ex_setCellsK kk (Nat.le_refl _) _ _; have ks2 : Ex B0 ((wc.alloc (.cells #[.slice none 0 0, .slice none 0 0, .int .i64 0, .int .i64 0, .bool false, .int .i64 0] 32)).setCells wc.heap.size 0 [hvC, qvC, I d.ar, I d.dm, .bool d.dark, I (d.ops : Nat)]) := ex_setCellsK (ex_alloc kk _) (ex_size kk) _ _; clear kc)); refine mixQ_mk (by (try show Ex _ _); repeat (first | (with_reducible exact ex_refl _) | (with_reducible assumption) | (with_reducible refine ex_drewL ?_) | (with_reducible refine ex_appR ?_ _) | (with_reducible refine ex_wx ?_ _) | (with_reducible refine ex_drew ?_) | (with_reducible refine ex_alloc ?_ _))) ?_))
      all_goals (with_reducible refine wpFork_nil ?_)
      all_goals go_wp2
      all_goals (first | (obtain ⟨V, hV⟩ : ∃ V, wc.setCells B0.heap.size 0 [hvC, qvC, I d.ar, I d.dm, .bool d.dark, I (d.ops : Nat)] = V := ⟨_, rfl⟩; have H2 : Hid (St1 L.own B0 V Lc.p B0.heap.size d d) := Lib.hid (by rw [← hV]; have hnq : ¬ Lc.own B0.heap.size := (fun e => Nat.lt_irrefl _ (Nat.lt_of_lt_of_le (by simp [go_sem]) (hco.out _ e))); refine St1.split L2.out L7.out (fun g hg => ⟨(L8.out g hg).1, (L8.out g hg).2.2.1⟩) ks ?_ (fun c hc => Nat.le_trans (by simp [go_sem]) (hco.out c hc)) (Nat.le_refl _) hnq ?_; (obtain ⟨qx, hM⟩ := hc.out.out; exact ⟨qx, hM.keep fun c hc => setCells_heap _ _ _ _ _ (fun e => hnq (e ▸ hc))⟩); exact (setCells_block _ _ _ _ 0 _ _ Bq.out).trans (by rfl)); rw [hV]; obtain ⟨q, hq⟩ : ∃ q, B0.heap.size = q := ⟨_, rfl⟩) | (obtain ⟨V, hV⟩ : ∃ V, wc.alloc (.cells #[hvC, qvC, I d.ar, I d.dm, .bool d.dark, I (d.ops : Nat)] 32) = V := ⟨_, rfl⟩; have H2 : Hid (St1 L.own B0 V Lc.p wc.heap.size d d) := Lib.hid (by rw [← hV]; exact St1.split L2.out L7.out (fun g hg => ⟨(L8.out g hg).1, (L8.out g hg).2.2.1⟩) (ex_alloc kk _) (hc.out.ex (ex_alloc (ex_refl _) _)) hco.out (ex_size kk) (fun e => by have := hc.out.lt e; omega) (heap_alloc_new _ _)); rw [hV]; obtain ⟨q, hq⟩ : ∃ q, wc.heap.size = q := ⟨_, rfl⟩))
      all_goals (
        rw [hq] at H2
        rw [hq]
        obtain ⟨pc, hpc⟩ : ∃ pc, Lc.p = pc := ⟨_, rfl⟩
        rw [hpc] at H2
        rw [hpc]
        have HD := Lib.hid hD
        (try clear Bq)
        (try clear nq fq zq)
        clear ks ks2 hc hco kk hV hq hpc hD nC
        go_loopw [60] (fun i W => ∃ k : Nat, k ≤ n' ∧ k ≤ 50 ∧ i = I k ∧ Hid (St1 L.own B0 W pc q (asksD d (l'.take k)) (asksD d (l'.take k)))) (fun i _ => n' - (intOf i).toNat)
        case atStart => exact ⟨0, by omega, by omega, rfl, H2⟩
        case round =>
          obtain ⟨k, hk, hk50, rfl, hSt⟩ := hrel
          have hB : DkB 100 (asksD d (l'.take k)) := by
            have := asks_b (l'.take k) HD.out
            have hl : (l'.take k).length ≤ 50 := by rw [List.length_take]; omega
            exact ⟨by have := this.1; omega, by have := this.2; omega⟩
          have eR := hSt.out.ex
          have Lb := ex_block eR L6.out
          unfold rowD at Lb
          obtain ⟨nC, fC⟩ := block_cells (n := 6) Lb rfl
          have zR := (Array.getElem?_eq_some_iff.1 Lb).1
          clear Lb
          by_cases hlt : k < n'
          · have hlt2 : (k : Int) < n' := by omega
            have hkm : k < m'.length := by rw [HL'.out]; exact hlt
            obtain ⟨x, hx⟩ : ∃ x, m'[k]? = some x := ⟨_, List.getElem?_eq_getElem hkm⟩
            have hxm : x ∈ m' := List.mem_of_getElem? hx
            obtain ⟨g, off, rfl, hg, _⟩ := HR'.out.pos (by rw [HL'.out]; omega)
            obtain ⟨hc, _⟩ := (HR'.out.ex (ex_trans kB eR)).at hx
            have hgr := Nat.lt_of_lt_of_le hg (ex_size (ex_trans kB eR))
            have hkv : x.2.oneCell' = true := by obtain ⟨ka, kc, e, _⟩ := (HA'.out.keep x hxm).out; rw [e]; rfl
            have hkp := Lib.hid ((HA'.out.keep x hxm).ex kB)
            have hab := Lib.hid (HA'.out.ok x hxm)
            have hst : Hid (asksD d (l'.take (k + 1)) = (askD x.1 (asksD d (l'.take k))).1) := Lib.hid (by
              have hlk : l'[k]? = some x.1 := by rw [← Hl'.out, List.getElem?_map, hx]; rfl
              have hkl := (List.getElem?_eq_some_iff.1 hlk).1
              rw [List.take_succ_eq_append_getElem hkl, (List.getElem?_eq_some_iff.1 hlk).2]
              unfold asksD
              rw [List.foldl_append]; rfl)
            unfold KA at hc
            by_cases h50 : k = 50
            · have e50 : ((k : Int) == 50) = true := by simp [h50]
              obtain ⟨hvS, qvS, hbS, oS1, oS2, HO⟩ := hSt.out.other (L := L) (by have := hB.2; omega) (fun _ h => h)
              generalize asksD d (l'.take k) = d2 at *
              unfold rowD at hbS HO
              have nS := (block_cells (n := 6) hbS rfl).1
              have zS := (Array.getElem?_eq_some_iff.1 hbS).1
              replace HO := Lib.hid HO
              clear hx hxm hkm h50 hbS hB
              go_wp2_with (first | (go_at_call 16; (with_reducible refine (HS1.out _ (ex_trans eR (by (try show Ex _ _); repeat (first | (with_reducible exact ex_refl _) | (with_reducible assumption) | (with_reducible refine ex_drewL ?_) | (with_reducible refine ex_appR ?_ _) | (with_reducible refine ex_wx ?_ _) | (with_reducible refine ex_drew ?_) | (with_reducible refine ex_alloc ?_ _))))).mono ?_); rintro e w9 ⟨rfl, L9, d9, _, k9⟩; have kw9 : Ex w w9 := ex_dv (ex_trans kB (ex_trans eR (by (try show Ex _ _); repeat (first | (with_reducible exact ex_refl _) | (with_reducible assumption) | (with_reducible refine ex_drewL ?_) | (with_reducible refine ex_appR ?_ _) | (with_reducible refine ex_wx ?_ _) | (with_reducible refine ex_drew ?_) | (with_reducible refine ex_alloc ?_ _))))) L3 k9; obtain ⟨Bq9, HSo⟩ := HO.out L9 _ w9 (by (try show Ex _ _); repeat (first | (with_reducible exact ex_refl _) | (with_reducible assumption) | (with_reducible refine ex_drewL ?_) | (with_reducible refine ex_appR ?_ _) | (with_reducible refine ex_wx ?_ _) | (with_reducible refine ex_drew ?_) | (with_reducible refine ex_alloc ?_ _))) k9; have nq9 := (block_cells (n := 6) Bq9 rfl).1; have zq9 := (Array.getElem?_eq_some_iff.1 Bq9).1; replace HSo := Lib.hid HSo; clear k9 Bq9) | (go_at_call 16; (with_reducible refine (HSo.out _ (by (try show Ex _ _); repeat (first | (with_reducible exact ex_refl _) | (with_reducible assumption) | (with_reducible refine ex_drewL ?_) | (with_reducible refine ex_appR ?_ _) | (with_reducible refine ex_wx ?_ _) | (with_reducible refine ex_drew ?_) | (with_reducible refine ex_alloc ?_ _)))).mono ?_); rintro e w10 ⟨rfl, La, Lb, ka, hoa⟩; have kw10 : Ex w w10 := ex_dv (ex_trans kw9 (by (try show Ex _ _); repeat (first | (with_reducible exact ex_refl _) | (with_reducible assumption) | (with_reducible refine ex_drewL ?_) | (with_reducible refine ex_appR ?_ _) | (with_reducible refine ex_wx ?_ _) | (with_reducible refine ex_drew ?_) | (with_reducible refine ex_alloc ?_ _)))) (fun c hc => Nat.le_trans (ex_size kB) (hoa c hc)) ka; clear ka hoa))
              go_ret
              exact post_mk' rfl (by (try show Ex _ _); repeat (first | (with_reducible exact ex_refl _) | (with_reducible assumption) | (with_reducible refine ex_drewL ?_) | (with_reducible refine ex_appR ?_ _) | (with_reducible refine ex_wx ?_ _) | (with_reducible refine ex_drew ?_) | (with_reducible refine ex_alloc ?_ _)))
            · have e50 : ((k : Int) == 50) = false := by simp; omega
              have hk51 := Lib.hid (show k + 1 ≤ 50 by omega)
              have hok := Lib.hid hSt.out.ok
              generalize asksD d (l'.take k) = d2 at *
              obtain ⟨hB1, hB2⟩ := hB
              have HOf := Lib.hid (fun W (kW : Ex wr W) => hSt.out.of kW x.1 x.2 (hkp.out.ex (ex_trans hSt.out.ex kW)) hab.out (by omega) (by omega))
              obtain ⟨r, hr⟩ : ∃ r, askD x.1 d2 = r := ⟨_, rfl⟩
              rw [hr] at HOf hst
              unfold AV at HOf
              replace hr := Lib.hid hr
              obtain ⟨d', bl, er⟩ := r
              simp only at HOf hst
              clear hx hxm hkm h50
              have hE : eqF (bkF bl) (bkF bl) 64 = true := eqF_same _ _
              go_wp2_with (first | (go_at_call 14; (with_reducible refine (HOf.out _ (by (try show Ex _ _); repeat (first | (with_reducible exact ex_refl _) | (with_reducible assumption) | (with_reducible refine ex_drewL ?_) | (with_reducible refine ex_appR ?_ _) | (with_reducible refine ex_wx ?_ _) | (with_reducible refine ex_drew ?_) | (with_reducible refine ex_alloc ?_ _)))).mono ?_); rintro e w6 ⟨rfl, h6, g6⟩; have r9 := (g6 wr.heap.size (Nat.le_refl _) (by simp [go_sem])).trans (heap_alloc_new wr _); have n9 := (block_cells (n := 4) r9 rfl).1; have z9 := (Array.getElem?_eq_some_iff.1 r9).1; clear g6 r9; obtain ⟨hv6, qv6, hb6, q1, q2, HSa⟩ := h6.said hok.out (by omega) (by omega) (hkp.out.ex h6.ex) hab.out; rw [hr.out] at HSa; unfold rowD at hb6 HSa; unfold AV at HSa; have n6 := (block_cells (n := 6) hb6 rfl).1; have z6 := (Array.getElem?_eq_some_iff.1 hb6).1; replace HSa := Lib.hid HSa; replace hb6 := Lib.hid hb6; replace h6 := Lib.hid h6) | (go_at_call 15; (with_reducible refine (HSa.out _ (by (try show Ex _ _); repeat (first | (with_reducible exact ex_refl _) | (with_reducible assumption) | (with_reducible refine ex_drewL ?_) | (with_reducible refine ex_appR ?_ _) | (with_reducible refine ex_wx ?_ _) | (with_reducible refine ex_drew ?_) | (with_reducible refine ex_alloc ?_ _)))).mono ?_); rintro e w8 ⟨hv8, qv8, rfl, p1, p2, k8, hS1, hS2⟩; have kk8 : Ex w6 w8 := ex_trans (ex_alloc (ex_alloc (ex_refl w6) (.cells (rowB 64 (bkF bl)) 39)) (.cells (rowB 64 fun _ => 0) 39)) k8; have B10 := ex_block (ex_trans (ex_alloc (ex_refl (w6.alloc (.cells (rowB 64 (bkF bl)) 39))) (.cells (rowB 64 fun _ => 0) 39)) k8) (heap_alloc_new w6 _); have B12 := ex_block k8 (heap_alloc_new (w6.alloc (.cells (rowB 64 (bkF bl)) 39)) (.cells (rowB 64 fun _ => 0) 39)); rw [World.size_alloc] at B12; have B7 := ex_block kk8 hb6.out; have hbl : B0.heap.size ≤ q := (by obtain ⟨_, _, _, _, _, _, _, e, _⟩ := h6.out.out; exact e); have hs6 := ex_size h6.out.ex; have hbz := (Array.getElem?_eq_some_iff.1 L6.out).1; obtain ⟨n7, f7⟩ := block_cells (n := 6) B7 rfl; have z7 := (Array.getElem?_eq_some_iff.1 B7).1; obtain ⟨n12, f12⟩ := block_cells (n := 64) B12 (by simp); have z12 := (Array.getElem?_eq_some_iff.1 B12).1; obtain ⟨x4, x5, xk⟩ := res_end (w := B0) (c4 := #[hv8, qv8, I d'.ar, I d'.dm, .bool d'.dark, I (d'.ops : Nat)]) (c5 := rowB 64 (bkF bl)) B7 B12 (by omega) hbl (by omega) (ex_trans h6.out.ex kk8) rfl (by simp); have hSV := hS2 (w6.heap.size + 1) (rowB 64 (bkF bl)).toList (by omega) (by simp [go_sem]); have kF := hSV.ex; obtain ⟨hvt, qvt, et, _, _, HTl⟩ := hSV.tells; obtain ⟨rfl, rfl⟩ := row_det x4 et; have y7 : cellsN ((w8.setCells q 0 [hv8, qv8, I d'.ar, I d'.dm, .bool d'.dark, I (d'.ops : Nat)]).setCells (w6.heap.size + 1) 0 (rowB 64 (bkF bl)).toList) q 0 6 = some #[hv8, qv8, I d'.ar, I d'.dm, .bool d'.dark, I (d'.ops : Nat)] := (block_cells (n := 6) x4 rfl).1; have y12 : cellsN ((w8.setCells q 0 [hv8, qv8, I d'.ar, I d'.dm, .bool d'.dark, I (d'.ops : Nat)]).setCells (w6.heap.size + 1) 0 (rowB 64 (bkF bl)).toList) (w6.heap.size + 1) 0 64 = some (rowB 64 (bkF bl)) := (block_cells (n := 64) x5 (by simp)).1; have x10 : ((w8.setCells q 0 [hv8, qv8, I d'.ar, I d'.dm, .bool d'.dark, I (d'.ops : Nat)]).setCells (w6.heap.size + 1) 0 (rowB 64 (bkF bl)).toList).heap[w6.heap.size]? = some (.cells (rowB 64 (bkF bl)) 39 (0, 0)) := (setCells_heap _ _ _ _ _ (by omega)).trans ((setCells_heap _ _ _ _ _ (by omega)).trans B10); have y10 := (block_cells (n := 64) x10 (by simp)).1; have xb := ex_block kF L6.out; unfold rowD at xb; have yb := (block_cells (n := 6) xb rfl).1; have ub := (Array.getElem?_eq_some_iff.1 xb).1; have u7 := (Array.getElem?_eq_some_iff.1 x4).1; have u12 := (Array.getElem?_eq_some_iff.1 x5).1; have u10 := (Array.getElem?_eq_some_iff.1 x10).1; unfold rowD at HTl; replace HTl := Lib.hid HTl; replace hSV := Lib.hid hSV; clear hS1 hS2 k8 kk8 B10 B12 B7 x4 x5 x10 xk et hbl xb hs6 hbz) | (go_at_call 13; (with_reducible refine (HTl.out _ (by (try show Ex _ _); repeat (first | (with_reducible exact ex_refl _) | (with_reducible assumption) | (with_reducible refine ex_drewL ?_) | (with_reducible refine ex_appR ?_ _) | (with_reducible refine ex_wx ?_ _) | (with_reducible refine ex_drew ?_) | (with_reducible refine ex_alloc ?_ _)))).mono ?_); rintro e w9 ⟨rfl, X9, rfl⟩) | (go_at_call 13; (with_reducible refine (HT1.out _ (by (try show Ex _ _); repeat (first | (with_reducible exact ex_refl _) | (with_reducible assumption) | (with_reducible refine ex_drewL ?_) | (with_reducible refine ex_appR ?_ _) | (with_reducible refine ex_wx ?_ _) | (with_reducible refine ex_drew ?_) | (with_reducible refine ex_alloc ?_ _)))).mono ?_); rintro e w9 ⟨rfl, X10, rfl⟩))
              refine ⟨⟨k + 1, by omega, hk51.out, by go_num, Lib.hid ?_⟩, by simp [intOf]; omega⟩
              rw [hst.out]
              exact hSV.out.grow (by (try show Ex _ _); repeat (first | (with_reducible exact ex_refl _) | (with_reducible assumption) | (with_reducible refine ex_drewL ?_) | (with_reducible refine ex_appR ?_ _) | (with_reducible refine ex_wx ?_ _) | (with_reducible refine ex_drew ?_) | (with_reducible refine ex_alloc ?_ _)))
          · have hkn : k = n' := by omega
            subst k
            obtain ⟨hvS, qvS, hbS, oS1, oS2, HO⟩ := hSt.out.other (L := L) (by have := hB.2; omega) (fun _ h => h)
            generalize asksD d (l'.take n') = d2 at *
            unfold rowD at hbS HO
            have nS := (block_cells (n := 6) hbS rfl).1
            have zS := (Array.getElem?_eq_some_iff.1 hbS).1
            replace HO := Lib.hid HO
            clear hbS hB hlt
            go_wp2_with (first | (go_at_call 16; (with_reducible refine (HS1.out _ (ex_trans eR (by (try show Ex _ _); repeat (first | (with_reducible exact ex_refl _) | (with_reducible assumption) | (with_reducible refine ex_drewL ?_) | (with_reducible refine ex_appR ?_ _) | (with_reducible refine ex_wx ?_ _) | (with_reducible refine ex_drew ?_) | (with_reducible refine ex_alloc ?_ _))))).mono ?_); rintro e w9 ⟨rfl, L9, d9, _, k9⟩; have kw9 : Ex w w9 := ex_dv (ex_trans kB (ex_trans eR (by (try show Ex _ _); repeat (first | (with_reducible exact ex_refl _) | (with_reducible assumption) | (with_reducible refine ex_drewL ?_) | (with_reducible refine ex_appR ?_ _) | (with_reducible refine ex_wx ?_ _) | (with_reducible refine ex_drew ?_) | (with_reducible refine ex_alloc ?_ _))))) L3 k9; obtain ⟨Bq9, HSo⟩ := HO.out L9 _ w9 (by (try show Ex _ _); repeat (first | (with_reducible exact ex_refl _) | (with_reducible assumption) | (with_reducible refine ex_drewL ?_) | (with_reducible refine ex_appR ?_ _) | (with_reducible refine ex_wx ?_ _) | (with_reducible refine ex_drew ?_) | (with_reducible refine ex_alloc ?_ _))) k9; have nq9 := (block_cells (n := 6) Bq9 rfl).1; have zq9 := (Array.getElem?_eq_some_iff.1 Bq9).1; replace HSo := Lib.hid HSo; clear k9 Bq9) | (go_at_call 16; (with_reducible refine (HSo.out _ (by (try show Ex _ _); repeat (first | (with_reducible exact ex_refl _) | (with_reducible assumption) | (with_reducible refine ex_drewL ?_) | (with_reducible refine ex_appR ?_ _) | (with_reducible refine ex_wx ?_ _) | (with_reducible refine ex_drew ?_) | (with_reducible refine ex_alloc ?_ _)))).mono ?_); rintro e w10 ⟨rfl, La, Lb, ka, hoa⟩; have kw10 : Ex w w10 := ex_dv (ex_trans kw9 (by (try show Ex _ _); repeat (first | (with_reducible exact ex_refl _) | (with_reducible assumption) | (with_reducible refine ex_drewL ?_) | (with_reducible refine ex_appR ?_ _) | (with_reducible refine ex_wx ?_ _) | (with_reducible refine ex_drew ?_) | (with_reducible refine ex_alloc ?_ _)))) (fun c hc => Nat.le_trans (ex_size kB) (hoa c hc)) ka; clear ka hoa))
            go_ret
            exact post_mk' rfl (by (try show Ex _ _); repeat (first | (with_reducible exact ex_refl _) | (with_reducible assumption) | (with_reducible refine ex_drewL ?_) | (with_reducible refine ex_appR ?_ _) | (with_reducible refine ex_wx ?_ _) | (with_reducible refine ex_drew ?_) | (with_reducible refine ex_alloc ?_ _)))
        )
end Go.Proofs.Ytdohohafdplkiaa
