import Derived.Test.YtabjamkkhlbajaaDoorMWlB
import Derived.Test.YtabjamkkhlbajaaDoorMDraw
import Derived.Test.YtabjamkkhlbajaaDoorMSeqH

/- The log: a head's sector. -/
set_option linter.unusedSimpArgs false
set_option linter.unusedVariables false
set_option linter.unnecessarySimpa false
set_option maxRecDepth 20000
namespace Go.Proofs.YtabjamkkhlbajaaDoor
open Go.RowKit
theorem wp_worldW {P : Program} {C : Code} {Q : Exit → Act → World → Prop} {a : Act} {w : World} (h : ∀ w8, w = w8 → Code.wp P C Q a w8) : Code.wp P C Q a w := h w rfl
theorem exit_worldW {K : Act → World → Prop} {Q : Exit → Act → World → Prop} {a : Act} {w : World} (h : ∀ w8, w = w8 → Exit.then K Q .normal a w8) : Exit.then K Q .normal a w := h w rfl
theorem own_cellsW {w : World} {Z n : Nat} {v : Value} {l : By} (h : OwnW w Z v l) (hn : l.length = n) (h0 : 0 < n) : ∃ g c, v = .slice (some ⟨g, 0, none⟩) n c ∧ n ≤ c ∧ c ≤ maxLen ∧ cellsN w g 0 n = some (rowB n (gF l)) ∧ Z ≤ g ∧ g < w.heap.size := by
  subst hn
  obtain ⟨g, cap, cur, rfl, k1, k2, k3, k4, k5⟩ := own_block h (by omega) (by omega)
  have hs := (OwnW.slt h).out
  obtain ⟨a, c, hv, k6, k7, k8, k9⟩ := hs
  obtain ⟨ha, _, hc⟩ := Value.slice.inj hv
  subst ha hc
  obtain ⟨g', off, e1, e2, e3⟩ := SlB.pos k9 h0
  cases e1
  have := SlB.cells e3 0 l.length (by omega)
  rw [Nat.add_zero, show shiftF (gF l) 0 = gF l from funext fun j => by unfold shiftF; rw [Nat.zero_add]] at this
  exact ⟨_, _, rfl, k6, k7, this, k1, e2⟩
theorem splice_sign (p m : By) (h : (p ++ m).length = 32) : spliceA (rowB 64 fun _ => 0) 0 (rowB 32 (gF (p ++ m))).toList = rowB 64 (gF (p ++ (m ++ List.replicate 28 0))) := by
  apply arr_ext
  intro j
  rw [spliceA_get, rowB_get, rowB_get, Array.length_toList, rowB_size, rowB_size, Array.getElem?_toList, rowB_get]
  by_cases hj : j < 64
  · by_cases h2 : j < 32
    · rw [if_pos (by omega), if_pos (by omega), if_pos hj, Nat.sub_zero]
      unfold gF
      rw [← List.append_assoc, List.getD_eq_getElem?_getD, List.getD_eq_getElem?_getD, List.getElem?_append_left (l₁ := p ++ m) (by omega)]
    · rw [if_neg (by omega), if_pos hj, if_pos hj]
      unfold gF
      rw [← List.append_assoc, List.getD_eq_getElem?_getD, List.getElem?_append_right (l₁ := p ++ m) (by omega), List.getElem?_replicate]
      split <;> rfl
  · rw [if_neg (by omega), if_neg hj, if_neg hj]
theorem splice_lay (s h : By) (hs : s.length = 60) (hh : h.length = 4) : spliceA (rowB 64 (gF s)) 60 (rowB 4 (gF h)).toList = rowB 64 (gF (s ++ h)) := by
  apply arr_ext
  intro j
  rw [spliceA_get, rowB_get, rowB_get, Array.length_toList, rowB_size, rowB_size, Array.getElem?_toList, rowB_get]
  by_cases hj : j < 64
  · by_cases h2 : j < 60
    · rw [if_neg (by omega), if_pos hj, if_pos hj]
      unfold gF
      rw [List.getD_eq_getElem?_getD, List.getD_eq_getElem?_getD, List.getElem?_append_left (by omega)]
    · rw [if_pos (by omega), if_pos (by omega), if_pos hj]
      unfold gF
      rw [List.getD_eq_getElem?_getD, List.getD_eq_getElem?_getD, List.getElem?_append_right (by omega), hs]
  · rw [if_neg (by omega), if_neg hj, if_neg hj]
theorem lay_row (c : Cm) : rowB 64 (gF (signL c ++ HW (signL c))) = rowB 64 (bkF (layB HW c)) := rowB_congr fun i hi => by
  unfold layB
  rw [bkF_of _ _ hi]
def flC (c : Cm) : List Nat := [c.turn, c.n, c.side, c.used, c.all]
def preC (c : Cm) (k : Nat) : By := tallyL ++ ((flC c).take k).flatMap hi4
theorem preC_succ (c : Cm) (k : Nat) (hk : k < 5) : preC c (k + 1) = preC c k ++ hi4 ((flC c).getD k 0) := by
  unfold preC
  rw [List.take_succ_eq_append_getElem (by simpa [flC] using hk), List.flatMap_append, List.append_assoc, List.getD_eq_getElem?_getD, List.getElem?_eq_getElem (by simpa [flC] using hk)]
  simp
theorem preC_len (c : Cm) (k : Nat) (hk : k ≤ 5) : (preC c k).length = 8 + 4 * k := by
  induction k with
  | zero => rfl
  | succ k ih => rw [preC_succ c k (by omega), List.length_append, ih (by omega), hi4_len]; omega
theorem preC_all (c : Cm) : preC c 5 ++ (c.mark ++ List.replicate 28 0) = signL c := by
  simp [preC, flC, signL]
abbrev talC : Array Value := #[.int .u8 116, .int .u8 97, .int .u8 108, .int .u8 108, .int .u8 121, .int .u8 119, .int .u8 97, .int .u8 108]
theorem tal_slt {w : World} {g : Nat} {fr : Nat × Nat} (h : w.heap[g]? = some (.cells talC 5 fr)) : SlT w (.slice (some ⟨g, 0, none⟩) 8 8) tallyL :=
  ⟨_, 8, rfl, by decide, by decide, (fun e => by cases e), sll_block h fun j hj => by
    have hj : j < 8 := hj
    match j, hj with
    | 0, _ => rfl
    | 1, _ => rfl
    | 2, _ => rfl
    | 3, _ => rfl
    | 4, _ => rfl
    | 5, _ => rfl
    | 6, _ => rfl
    | 7, _ => rfl⟩
set_option maxHeartbeats 1000000 in
theorem lay_any {w0 w : World} (G : Glob w0) (k0 : Ex w0 w) (c : Cm) (h1 : c.turn < 4294967296) (h2 : c.n < 4294967296) (h3 : c.side < 4294967296) (h4 : c.used < 4294967296) (h5 : c.all < 4294967296) (hm : c.mark.length = 4) :
    Calls Tryd.prog 65 #[.agg (CR c)] w (Post w (.agg (rowB 64 (bkF (layB HW c))))) := by
  have hfl : ∀ k, k < 5 → (flC c).getD k 0 < 4294967296 := fun k hk => by
    match k, hk with
    | 0, _ => exact h1
    | 1, _ => exact h2
    | 2, _ => exact h3
    | 3, _ => exact h4
    | 4, _ => exact h5
  have HF := Lib.hid hfl
  have HP0 : Hid (preC c 0 = tallyL) := Lib.hid rfl
  have HP := Lib.hid (preC_succ c)
  have HPL := Lib.hid (preC_len c)
  have HPA := Lib.hid (preC_all c)
  have HM := Lib.hid hm
  clear hfl hm h1 h2 h3 h4 h5
  have kc : ∀ (W : World) (C : Array Value) (g n c : Nat), g = W.heap.size → (convert 22 22 (.slice (some ⟨g, 0, none⟩) n c)).run Tryd.prog (W.alloc (.cells C 5)) = .ok (.slice (some ⟨g, 0, none⟩) n c) (W.alloc (.cells C 5 (C.size, C.size + 1))) := by
    rintro W C g n c rfl
    exact Lib.run_convert_bytes_const W _ _ C n c Tryd.underlying22 Tryd.underlying5
  go_enter Tryd.func65, Tryd.ntmps65
  go_wp2
  refine wp_worldW fun C hC => ?_
  have hwC : Ex w C := by rw [← hC]; exact (by (try show Ex _ _); with_reducible repeat (first | exact ex_refl _ | assumption | refine ex_drewL ?_ | refine ex_appR ?_ _ | refine ex_wx ?_ _ | refine ex_drew ?_ | refine ex_alloc ?_ _))
  have b0 : C.heap[w.heap.size]? = some (.cells (CR c) 62 (0, 0)) := by rw [← hC]; exact ex_block (by (try show Ex _ _); with_reducible repeat (first | exact ex_refl _ | assumption | refine ex_drewL ?_ | refine ex_appR ?_ _ | refine ex_wx ?_ _ | refine ex_drew ?_ | refine ex_alloc ?_ _)) (heap_alloc_new w _)
  have b1 : C.heap[w.heap.size + 1]? = some (.cells (rowB 64 fun _ => 0) 75 (0, 0)) := by
    rw [← hC]
    refine ex_block (w := (w.alloc (.cells (CR c) 62)).alloc (.cells (rowB 64 fun _ => 0) 75)) (by (try show Ex _ _); with_reducible repeat (first | exact ex_refl _ | assumption | refine ex_drewL ?_ | refine ex_appR ?_ _ | refine ex_wx ?_ _ | refine ex_drew ?_ | refine ex_alloc ?_ _)) ?_
    rw [← World.size_alloc w (.cells (CR c) 62)]
    exact heap_alloc_new _ _
  have b2 : C.heap[w.heap.size + 1 + 1]? = some (.cells talC 5 (8, 9)) := by
    rw [← hC]
    refine ex_block (w := ((w.alloc (.cells (CR c) 62)).alloc (.cells (rowB 64 fun _ => 0) 75)).alloc (.cells talC 5 (8, 9))) (by (try show Ex _ _); with_reducible repeat (first | exact ex_refl _ | assumption | refine ex_drewL ?_ | refine ex_appR ?_ _ | refine ex_wx ?_ _ | refine ex_drew ?_ | refine ex_alloc ?_ _)) ?_
    rw [← World.size_alloc w (.cells (CR c) 62), ← World.size_alloc (w.alloc (.cells (CR c) 62)) (.cells (rowB 64 fun _ => 0) 75)]
    exact heap_alloc_new _ _
  have b3 : C.heap[w.heap.size + 1 + 1 + 1]? = some (.cells #[U4 c.turn, U4 c.n, U4 c.side, U4 c.used, U4 c.all] 36 (0, 0)) := by
    rw [← hC]
    refine ex_block (w := (((w.alloc (.cells (CR c) 62)).alloc (.cells (rowB 64 fun _ => 0) 75)).alloc (.cells talC 5 (8, 9))).alloc (.cells #[U4 c.turn, U4 c.n, U4 c.side, U4 c.used, U4 c.all] 36)) (by (try show Ex _ _); with_reducible repeat (first | exact ex_refl _ | assumption | refine ex_drewL ?_ | refine ex_appR ?_ _ | refine ex_wx ?_ _ | refine ex_drew ?_ | refine ex_alloc ?_ _)) ?_
    rw [← World.size_alloc w (.cells (CR c) 62), ← World.size_alloc (w.alloc (.cells (CR c) 62)) (.cells (rowB 64 fun _ => 0) 75), ← World.size_alloc ((w.alloc (.cells (CR c) 62)).alloc (.cells (rowB 64 fun _ => 0) 75)) (.cells talC 5 (8, 9))]
    exact heap_alloc_new _ _
  clear hC
  obtain ⟨g3, hg3⟩ : ∃ g, w.heap.size + 1 + 1 + 1 = g := ⟨_, rfl⟩
  rw [hg3] at b3 ⊢
  obtain ⟨g2, hg2⟩ : ∃ g, w.heap.size + 1 + 1 = g := ⟨_, rfl⟩
  rw [hg2] at b2 ⊢
  obtain ⟨g1, hg1⟩ : ∃ g, w.heap.size + 1 = g := ⟨_, rfl⟩
  rw [hg1] at b1 ⊢
  obtain ⟨g0, hg0⟩ : ∃ g, w.heap.size = g := ⟨_, rfl⟩
  rw [hg0] at b0 ⊢
  have hgd : w.heap.size ≤ g0 ∧ w.heap.size ≤ g1 ∧ g0 ≠ g1 := by omega
  clear hg0 hg1 hg2 hg3
  have hT0 := Lib.hid (tal_slt b2)
  have z3 := (Array.getElem?_eq_some_iff.1 b3).1
  have HC3 : Hid (∀ k, k < 5 → C.cell? ⟨g3, k, none⟩ = some (U4 ((flC c).getD k 0))) := Lib.hid fun k hk => by
    rw [cell_of_row C g3 k _ _ _ b3]
    match k, hk with
    | 0, _ => rfl
    | 1, _ => rfl
    | 2, _ => rfl
    | 3, _ => rfl
    | 4, _ => rfl
  clear b3 b2 kc
  go_loopw [3, 21] (fun v i W' => ∃ k : Nat, k ≤ 5 ∧ i = I k ∧ Hid (SlT W' v (preC c k)) ∧ Hid (0 < k → OwnW W' C.heap.size v (preC c k)) ∧ Ex C W') (fun _ i _ => 5 - (intOf i).toNat)
  case atStart => exact ⟨0, by omega, rfl, hT0, Lib.hid (fun h => absurd h (by omega)), (by (try show Ex _ _); with_reducible repeat (first | exact ex_refl _ | assumption | refine ex_drewL ?_ | refine ex_appR ?_ _ | refine ex_wx ?_ _ | refine ex_drew ?_ | refine ex_alloc ?_ _))⟩
  case round =>
    obtain ⟨k, hk, rfl, HS, HO, ⟨X, rfl⟩⟩ := hrel
    by_cases hlt : k < 5
    · have c3 := HC3.out k hlt
      obtain ⟨x, hx⟩ : ∃ x, (flC c).getD k 0 = x := ⟨_, rfl⟩
      have hxl := HF.out k hlt
      have HPk := HP.out k hlt
      rw [hx] at c3 hxl HPk
      replace HPk := Lib.hid HPk
      have HLk := Lib.hid (HPL.out k hk)
      have HPut : Hid (∀ w', Ex (wx C X) w' → Calls Tryd.prog 63 #[_, .int .u32 x] w' (PostOw w' (preC c k ++ hi4 x))) := Lib.hid fun w' k' => put32_slt x hxl (preC c k) _ w' (by have := HLk.out; omega) (HS.out.ex k') (Or.inr (by have := HLk.out; omega))
      clear hx
      go_wp2_with (go_at_call 63; (with_reducible refine (HPut.out _ (by (try show Ex _ _); with_reducible repeat (first | exact ex_refl _ | assumption | refine ex_drewL ?_ | refine ex_appR ?_ _ | refine ex_wx ?_ _ | refine ex_drew ?_ | refine ex_alloc ?_ _))).mono ?_); rintro e w2 ⟨v2, rfl, hown, X2, rfl⟩)
      have hsz : C.heap.size ≤ (wx C X).heap.size := by rw [wx_size]; omega
      (try simp only [wx_wx, wx_drew] at hown)
      have hown2 := OwnW.le hown hsz
      rw [← HPk.out] at hown2
      exact ⟨⟨k + 1, by omega, by go_num, Lib.hid hown2.slt, Lib.hid fun _ => hown2, (by (try show Ex _ _); with_reducible repeat (first | exact ex_refl _ | assumption | refine ex_drewL ?_ | refine ex_appR ?_ _ | refine ex_wx ?_ _ | refine ex_drew ?_ | refine ex_alloc ?_ _))⟩, by simp [intOf]; omega⟩
    · obtain rfl : k = 5 := by omega
      have HO5 := Lib.hid (HO.out (by omega))
      have hP5 := HPL.out 5 (by omega)
      have HA := HPA.out
      generalize preC c 5 = p5 at HO5 hP5 HA
      replace hP5 := Lib.hid hP5
      replace HA := Lib.hid HA
      clear hlt hk HS HO HC3 z3 HF HP0 HP HPL HPA hT0
      go_wp2
      have HMk : Hid (∀ w', Ex C w' → SlS w' (.slice (some ⟨g0, 5, none⟩) 4 4) c.mark) := Lib.hid fun w' k => by
        have hm := HM.out
        have hb := ex_block k b0
        refine ⟨_, 4, by rw [hm], by rw [hm]; omega, by decide, SlB.mk' (Array.getElem?_eq_some_iff.1 hb).1 fun j hj => ?_⟩
        rw [hm] at hj
        rw [cell_of_row w' g0 (5 + j) _ _ _ hb]
        match j, hj with
        | 0, _ => rfl
        | 1, _ => rfl
        | 2, _ => rfl
        | 3, _ => rfl
      have hl32 : Hid ((p5 ++ c.mark).length = 32) := Lib.hid (by rw [List.length_append, show p5.length = 28 from hP5.out, show c.mark.length = 4 from HM.out])
      obtain ⟨n1, f1, z1⟩ := block_cellsF (n := 64) b1 (by simp)
      have n32 : cellsN C g1 0 32 = some (rowB 32 fun _ => 0) := cellsN_some.2 ⟨by simp, fun j hj => by rw [Nat.zero_add, cell_of_row C g1 j _ _ _ b1, rowB_get, rowB_get, if_pos (by omega), if_pos hj]⟩
      have f32 : frozenN C g1 0 32 = false := frozenN_false.2 fun j hj => by simp [World.frozen?, b1]
      refine wp_region_forkH (fun w' => ∃ X, w' = wx w X) (.look 0 (.look 1 (.look 2 (.look 3 (.eff 4 (.eff 5 .done)))))) ((by show Ex _ _; repeat (first | (with_reducible assumption) | (with_reducible exact ex_refl _) | (with_reducible refine ex_wx ?_ _) | (with_reducible refine ex_drew ?_) | (with_reducible refine ex_alloc ?_ _) | (with_reducible refine ex_setCells ?_ hgd.2.1 _ _)))) (by kernel_rfl) (by kernel_rfl) (fun _ _ d _ _ h => by cases d <;> exact h) ?_
      simp only [Fk.ops, nth]
      repeat (first | ((with_reducible refine wpForkH_look ?_); go_big_quiet_step (fail); (try (with_reducible refine wpQuiet_nil ?_))) | (with_reducible refine wpForkH_eff ?_) | ((with_reducible refine effH_F ?_ ?_); (focus rfl); go_simp) | ((with_reducible refine effH_T ?_ ?_); (focus rfl); (try dsimp only); go_wp2_with ((at_builtin; refine wpAppB _ _ rfl rfl (owns_ex HO5.out (by (try show Ex _ _); with_reducible repeat (first | exact ex_refl _ | assumption | refine ex_drewL ?_ | refine ex_appR ?_ _ | refine ex_wx ?_ _ | refine ex_drew ?_ | refine ex_alloc ?_ _))) rfl rfl (HMk.out _ (by (try show Ex _ _); with_reducible repeat (first | exact ex_refl _ | assumption | refine ex_drewL ?_ | refine ex_appR ?_ _ | refine ex_wx ?_ _ | refine ex_drew ?_ | refine ex_alloc ?_ _))) (by rw [hP5.out, HM.out]; omega) (by simp [go_sem] <;> omega) (fun v1 w1 hown1 hbe => ?_); obtain ⟨X5, rfl⟩ := exOf (A := C) (by (try show Ex _ _); with_reducible repeat (first | exact ex_refl _ | assumption | refine ex_drewL ?_ | refine ex_appR ?_ _ | refine ex_wx ?_ _ | refine ex_drew ?_ | refine ex_alloc ?_ _)) hbe; obtain ⟨g6, c6, rfl, d1, d2, d3, d4, d5⟩ := own_cellsW (show OwnW _ _ _ (p5 ++ c.mark) from by unfold OwnW; rw [List.length_append]; exact hown1) hl32.out (by omega); clear hown1)); (first | done | refine mixQH_mk ((by show Ex _ _; repeat (first | (with_reducible assumption) | (with_reducible exact ex_refl _) | (with_reducible refine ex_wx ?_ _) | (with_reducible refine ex_drew ?_) | (with_reducible refine ex_alloc ?_ _) | (with_reducible refine ex_setCells ?_ hgd.2.1 _ _)))) ?_)))
      all_goals (with_reducible refine wpForkH_nil ?_)
      refine exit_worldW fun D hD => ?_
      have hwD : Ex w D := by rw [← hD]; (show Ex _ _; repeat (first | (with_reducible assumption) | (with_reducible exact ex_refl _) | (with_reducible refine ex_wx ?_ _) | (with_reducible refine ex_drew ?_) | (with_reducible refine ex_alloc ?_ _) | (with_reducible refine ex_setCells ?_ hgd.2.1 _ _)))
      have hbD : D.heap[g1]? = some (.cells (rowB 64 (gF (signL c))) 75 (0, 0)) := by
        rw [← hD]
        have h6 := setCells_block g1 75 (0, 0) (rowB 32 (gF (p5 ++ c.mark))).toList 0 C _ b1
        have h7 := ex_block (w := C.setCells g1 0 (rowB 32 (gF (p5 ++ c.mark))).toList) ⟨X5, rfl⟩ h6
        rw [splice_sign _ _ hl32.out, HA.out] at h7
        exact h7
      clear hD
      have hs60 : Hid ((signL c).length = 60) := Lib.hid (sign_len HW_len HM.out)
      have HDg : Hid (∀ w' g, Ex D w' → w'.cell? ⟨g, 0, none⟩ = some (.slice (some ⟨g1, 0, none⟩) 60 60) → Calls Tryd.prog 34 #[.slice (some ⟨g, 0, none⟩) 1 1] w' (Post w' (.agg (rowB 4 (gF (HW (signL c))))))) := Lib.hid fun w' g k hc => by
        have hb := ex_block k hbD
        refine digest1_any G (ex_trans k0 (ex_trans hwD k)) hc ⟨_, 60, by rw [hs60.out], by rw [hs60.out]; omega, by decide, (fun e => by cases e), sll_block hb fun j hj => ?_⟩ (by rw [hs60.out]; omega)
        rw [hs60.out] at hj
        rw [rowB_get, if_pos (by omega)]
      have n64 := block_cellsF (n := 64) hbD (by simp)
      obtain ⟨n64, f64, z64⟩ := n64
      have n4 : cellsN D g1 60 4 = some (rowB 4 fun i => gF (signL c) (60 + i)) := cellsN_some.2 ⟨by simp, fun j hj => by rw [cell_of_row D g1 (60 + j) _ _ _ hbD, rowB_get, rowB_get, if_pos (by omega), if_pos hj]⟩
      have f4 : frozenN D g1 60 4 = false := frozenN_false.2 fun j hj => by simp [World.frozen?, hbD]
      have HWl : Hid ((HW (signL c)).length = 4) := Lib.hid (HW_len _)
      have HR := Lib.hid (lay_row c)
      have HSp := Lib.hid (splice_lay (signL c) (HW (signL c)) hs60.out (HW_len _))
      generalize HW (signL c) = hw at HDg HWl HR HSp
      generalize gF (signL c) = fs at n64 n4 hbD HSp
      have hbl := Lib.hid hbD
      clear b0 b1 n1 f1 z1 n32 f32 d1 d2 d3 d4 d5 HMk HO5 hbD
      go_wp2_with (go_at_call 34; (with_reducible refine (HDg.out _ _ (by (try show Ex _ _); with_reducible repeat (first | exact ex_refl _ | assumption | refine ex_drewL ?_ | refine ex_appR ?_ _ | refine ex_wx ?_ _ | refine ex_drew ?_ | refine ex_alloc ?_ _)) (by simp [go_sem])).mono ?_); rintro e w2 ⟨rfl, X7, rfl⟩)
      refine wp_region_forkH (fun w' => ∃ X, w' = wx w X) (.look 0 (.look 1 (.eff 2 .done))) ((by show Ex _ _; repeat (first | (with_reducible assumption) | (with_reducible exact ex_refl _) | (with_reducible refine ex_wx ?_ _) | (with_reducible refine ex_drew ?_) | (with_reducible refine ex_alloc ?_ _) | (with_reducible refine ex_setCells ?_ hgd.2.1 _ _)))) (by kernel_rfl) (by kernel_rfl) (fun _ _ d _ _ h => by cases d <;> exact h) ?_
      simp only [Fk.ops, nth]
      repeat (first | ((with_reducible refine wpForkH_look ?_); go_big_quiet_step (fail); (try (with_reducible refine wpQuiet_nil ?_))) | (with_reducible refine wpForkH_eff ?_) | ((with_reducible refine effH_F ?_ ?_); (focus rfl); go_simp) | ((with_reducible refine effH_T ?_ ?_); (focus rfl); (try dsimp only); go_wp2_with (fail); (first | done | refine mixQH_mk ((by show Ex _ _; repeat (first | (with_reducible assumption) | (with_reducible exact ex_refl _) | (with_reducible refine ex_wx ?_ _) | (with_reducible refine ex_drew ?_) | (with_reducible refine ex_alloc ?_ _) | (with_reducible refine ex_setCells ?_ hgd.2.1 _ _)))) ?_)))
      all_goals (with_reducible refine wpForkH_nil ?_)
      refine exit_worldW fun E hE => ?_
      have hwE : Ex w E := by rw [← hE]; (show Ex _ _; repeat (first | (with_reducible assumption) | (with_reducible exact ex_refl _) | (with_reducible refine ex_wx ?_ _) | (with_reducible refine ex_drew ?_) | (with_reducible refine ex_alloc ?_ _) | (with_reducible refine ex_setCells ?_ hgd.2.1 _ _)))
      have hbE : E.heap[g1]? = some (.cells (rowB 64 (bkF (layB HW c))) 75 (0, 0)) := by
        rw [← hE]
        have h6 := setCells_block g1 75 (0, 0) (rowB 4 (gF hw)).toList 60 D _ hbl.out
        rw [HSp.out, HR.out] at h6
        exact ex_block (w := D.setCells g1 60 (rowB 4 (gF hw)).toList) (by (try show Ex _ _); with_reducible repeat (first | exact ex_refl _ | assumption | refine ex_drewL ?_ | refine ex_appR ?_ _ | refine ex_wx ?_ _ | refine ex_drew ?_ | refine ex_alloc ?_ _)) h6
      clear hE
      obtain ⟨fr, hfr⟩ : ∃ fr, bkF (layB HW c) = fr := ⟨_, rfl⟩
      rw [hfr] at hbE
      replace hfr := Lib.hid hfr
      obtain ⟨m64, e64, y64⟩ := block_cellsF (n := 64) hbE (by simp)
      have h8 := setCells_block g1 75 (0, 0) (rowB 64 fr).toList 0 E _ hbE
      rw [spliceA_all _ _ (by simp), Array.toArray_toList] at h8
      have HF := Lib.hid (block_cellsF (n := 64) h8 (by simp)).1
      clear h8 n64 f64 z64 n4 f4 HDg hbE
      go_wp2
      exact ret_row (cs := rowB 64 fr) Tryd.results65 Tryd.underlying75 rfl info_blk rfl HF.out rfl (post_mk' (by rw [hfr.out]) (ex_setCells hwE hgd.2.1 _ _))
end Go.Proofs.YtabjamkkhlbajaaDoor
