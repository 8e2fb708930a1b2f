import Derived.Test.YtbobamifpjlmiaaDoorMSRoots
import Derived.Test.YtbobamifpjlmiaaDoorMFork

/- SearchProves: what it does. -/
set_option linter.unusedSimpArgs false
set_option linter.unusedVariables false
set_option maxRecDepth 20000
namespace Go.Proofs.YtbobamifpjlmiaaDoor
open Go.RowKit
set_option maxHeartbeats 2000000 in
theorem docprove0_any (r : Rg) (a : Option Addr) (c : Nat) (w : World) (hcm : c ≤ maxLen) (ha : a = none → c = 0) :
    Calls Tryd.prog 46 #[.slice a 0 c, .agg (RC r)] w (PostSq w (0 : Nat) (0 : Nat) [] []) := by
  unfold maxLen at hcm
  obtain ⟨lo, hi, op⟩ := r
  unfold RC
  simp only
  have d0 : (0 : Int) ≤ c := by omega
  cases a with
  | none =>
    obtain rfl := ha rfl
    go_enter Tryd.func46, Tryd.ntmps46
    go_wp2
    go_loopw [5] (fun i wr => i = I 0 ∧ wr = wR w lo hi op) (fun _ _ => 0)
    case atStart => exact ⟨rfl, rfl⟩
    case round =>
      obtain ⟨rfl, rfl⟩ := hrel
      go_wp2
      refine wp_region_seq [(0, true), (1, true), (2, true), (3, true), (4, true), (5, true), (6, true), (7, true), (8, true), (9, true), (10, true), (11, true), (12, true), (13, true)] (by kernel_rfl) (by kernel_rfl) (fun _ _ d _ _ h => by cases d <;> exact h) ?_
      simp only [List.map_cons, List.map_nil, nth]
      repeat (first | ((with_reducible refine wpSeq_look ?_); go_big_quiet_step (fail); (with_reducible refine wpQuiet_nil ?_)) | ((with_reducible refine wpSeq_effF ?_ ?_); (focus rfl); go_simp) | ((with_reducible refine wpSeq_eff ?_ ?_); (focus rfl); (try dsimp only); go_wp2_with (fail); refine mixQ_mk (by (try show Ex _ _); repeat (first | (with_reducible exact ex_refl _) | (with_reducible assumption) | (with_reducible refine ex_drewL ?_) | (with_reducible refine ex_appR ?_ _) | (with_reducible refine ex_wx ?_ _) | (with_reducible refine ex_drew ?_) | (with_reducible refine ex_alloc ?_ _))) ?_))
      refine wpSeq_nil ?_
      go_wp2
      go_loopw [6] (fun i wr => i = I 0 ∧ wr = (wR w lo hi op).drew) (fun _ _ => 0)
      case atStart => exact ⟨rfl, rfl⟩
      case round =>
        obtain ⟨rfl, rfl⟩ := hrel
        go_wp2
        refine wp_region_seq [(0, true), (1, true), (2, true), (3, true), (4, true), (5, true), (6, true), (7, true), (8, true), (9, true), (10, true), (11, false), (12, true)] (by kernel_rfl) (by kernel_rfl) (fun _ _ d _ _ h => by cases d <;> exact h) ?_
        simp only [List.map_cons, List.map_nil, nth]
        repeat (first | ((with_reducible refine wpSeq_look ?_); go_big_quiet_step (fail); (with_reducible refine wpQuiet_nil ?_)) | ((with_reducible refine wpSeq_effF ?_ ?_); (focus rfl); go_simp) | ((with_reducible refine wpSeq_eff ?_ ?_); (focus rfl); (try dsimp only); go_wp2_with (fail); refine mixQ_mk (by (try show Ex _ _); repeat (first | (with_reducible exact ex_refl _) | (with_reducible assumption) | (with_reducible refine ex_drewL ?_) | (with_reducible refine ex_appR ?_ _) | (with_reducible refine ex_wx ?_ _) | (with_reducible refine ex_drew ?_) | (with_reducible refine ex_alloc ?_ _))) ?_))
        refine wpSeq_nil ?_
        go_wp2
        exact ret_row (cs := #[I 0, I 0, .slice none 0 0, .slice none 0 0]) Tryd.results46 Tryd.underlying65 rfl info_span rfl (by simp [go_sem]) rfl ⟨_, _, none, 0, rfl, ⟨by simp, by unfold maxLen; omega, fun h => by (first | rfl | cases h), SlP.nil _ _⟩, ⟨by simp, by decide, fun _ => rfl, SlD.nil _ _⟩, (by (try show Ex _ _); repeat (first | (with_reducible exact ex_refl _) | (with_reducible assumption) | (with_reducible refine ex_drewL ?_) | (with_reducible refine ex_appR ?_ _) | (with_reducible refine ex_wx ?_ _) | (with_reducible refine ex_drew ?_) | (with_reducible refine ex_alloc ?_ _)))⟩
  | some ad =>
    obtain ⟨g, off, spot⟩ := ad
    by_cases hc0 : c = 0
    · subst hc0
      go_enter Tryd.func46, Tryd.ntmps46
      go_wp2
      go_loopw [5] (fun i wr => i = I 0 ∧ wr = wR w lo hi op) (fun _ _ => 0)
      case atStart => exact ⟨rfl, rfl⟩
      case round =>
        obtain ⟨rfl, rfl⟩ := hrel
        go_wp2
        refine wp_region_seq [(0, true), (1, true), (2, true), (3, true), (4, true), (5, true), (6, true), (7, true), (8, true), (9, true), (10, true), (11, true), (12, true), (13, true)] (by kernel_rfl) (by kernel_rfl) (fun _ _ d _ _ h => by cases d <;> exact h) ?_
        simp only [List.map_cons, List.map_nil, nth]
        repeat (first | ((with_reducible refine wpSeq_look ?_); go_big_quiet_step (fail); (with_reducible refine wpQuiet_nil ?_)) | ((with_reducible refine wpSeq_effF ?_ ?_); (focus rfl); go_simp) | ((with_reducible refine wpSeq_eff ?_ ?_); (focus rfl); (try dsimp only); go_wp2_with (fail); refine mixQ_mk (by (try show Ex _ _); repeat (first | (with_reducible exact ex_refl _) | (with_reducible assumption) | (with_reducible refine ex_drewL ?_) | (with_reducible refine ex_appR ?_ _) | (with_reducible refine ex_wx ?_ _) | (with_reducible refine ex_drew ?_) | (with_reducible refine ex_alloc ?_ _))) ?_))
        refine wpSeq_nil ?_
        go_wp2
        go_loopw [6] (fun i wr => i = I 0 ∧ wr = (wR w lo hi op).drew) (fun _ _ => 0)
        case atStart => exact ⟨rfl, rfl⟩
        case round =>
          obtain ⟨rfl, rfl⟩ := hrel
          go_wp2
          refine wp_region_seq [(0, true), (1, true), (2, true), (3, true), (4, true), (5, true), (6, true), (7, true), (8, true), (9, true), (10, true), (11, false), (12, true)] (by kernel_rfl) (by kernel_rfl) (fun _ _ d _ _ h => by cases d <;> exact h) ?_
          simp only [List.map_cons, List.map_nil, nth]
          repeat (first | ((with_reducible refine wpSeq_look ?_); go_big_quiet_step (fail); (with_reducible refine wpQuiet_nil ?_)) | ((with_reducible refine wpSeq_effF ?_ ?_); (focus rfl); go_simp) | ((with_reducible refine wpSeq_eff ?_ ?_); (focus rfl); (try dsimp only); go_wp2_with (fail); refine mixQ_mk (by (try show Ex _ _); repeat (first | (with_reducible exact ex_refl _) | (with_reducible assumption) | (with_reducible refine ex_drewL ?_) | (with_reducible refine ex_appR ?_ _) | (with_reducible refine ex_wx ?_ _) | (with_reducible refine ex_drew ?_) | (with_reducible refine ex_alloc ?_ _))) ?_))
          refine wpSeq_nil ?_
          go_wp2
          exact ret_row (cs := #[I 0, I 0, .slice (some ⟨g, off, spot⟩) 0 0, .slice none 0 0]) Tryd.results46 Tryd.underlying65 rfl info_span rfl (by simp [go_sem]) rfl ⟨_, _, none, 0, rfl, ⟨by simp, by unfold maxLen; omega, fun h => by (first | rfl | cases h), SlP.nil _ _⟩, ⟨by simp, by decide, fun _ => rfl, SlD.nil _ _⟩, (by (try show Ex _ _); repeat (first | (with_reducible exact ex_refl _) | (with_reducible assumption) | (with_reducible refine ex_drewL ?_) | (with_reducible refine ex_appR ?_ _) | (with_reducible refine ex_wx ?_ _) | (with_reducible refine ex_drew ?_) | (with_reducible refine ex_alloc ?_ _)))⟩
    · have hc1 : ¬ c = 0 := hc0
      go_enter Tryd.func46, Tryd.ntmps46
      go_wp2
      go_loopw [5] (fun i wr => i = I 0 ∧ wr = wR w lo hi op) (fun _ _ => 0)
      case atStart => exact ⟨rfl, rfl⟩
      case round =>
        obtain ⟨rfl, rfl⟩ := hrel
        go_wp2
        refine wp_region_seq [(0, true), (1, true), (2, true), (3, true), (4, true), (5, true), (6, true), (7, true), (8, true), (9, true), (10, true), (11, true), (12, true), (13, true)] (by kernel_rfl) (by kernel_rfl) (fun _ _ d _ _ h => by cases d <;> exact h) ?_
        simp only [List.map_cons, List.map_nil, nth]
        repeat (first | ((with_reducible refine wpSeq_look ?_); go_big_quiet_step (fail); (with_reducible refine wpQuiet_nil ?_)) | ((with_reducible refine wpSeq_effF ?_ ?_); (focus rfl); go_simp) | ((with_reducible refine wpSeq_eff ?_ ?_); (focus rfl); (try dsimp only); go_wp2_with (fail); refine mixQ_mk (by (try show Ex _ _); repeat (first | (with_reducible exact ex_refl _) | (with_reducible assumption) | (with_reducible refine ex_drewL ?_) | (with_reducible refine ex_appR ?_ _) | (with_reducible refine ex_wx ?_ _) | (with_reducible refine ex_drew ?_) | (with_reducible refine ex_alloc ?_ _))) ?_))
        refine wpSeq_nil ?_
        go_wp2
        go_loopw [6] (fun i wr => i = I 0 ∧ wr = (wR w lo hi op).drew) (fun _ _ => 0)
        case atStart => exact ⟨rfl, rfl⟩
        case round =>
          obtain ⟨rfl, rfl⟩ := hrel
          go_wp2
          refine wp_region_seq [(0, true), (1, true), (2, true), (3, true), (4, true), (5, true), (6, true), (7, true), (8, true), (9, true), (10, true), (11, false), (12, true)] (by kernel_rfl) (by kernel_rfl) (fun _ _ d _ _ h => by cases d <;> exact h) ?_
          simp only [List.map_cons, List.map_nil, nth]
          repeat (first | ((with_reducible refine wpSeq_look ?_); go_big_quiet_step (fail); (with_reducible refine wpQuiet_nil ?_)) | ((with_reducible refine wpSeq_effF ?_ ?_); (focus rfl); go_simp) | ((with_reducible refine wpSeq_eff ?_ ?_); (focus rfl); (try dsimp only); go_wp2_with (fail); refine mixQ_mk (by (try show Ex _ _); repeat (first | (with_reducible exact ex_refl _) | (with_reducible assumption) | (with_reducible refine ex_drewL ?_) | (with_reducible refine ex_appR ?_ _) | (with_reducible refine ex_wx ?_ _) | (with_reducible refine ex_drew ?_) | (with_reducible refine ex_alloc ?_ _))) ?_))
          refine wpSeq_nil ?_
          go_wp2
          exact ret_row (cs := #[I 0, I 0, .slice (some ⟨g, off, spot⟩) 0 c, .slice none 0 0]) Tryd.results46 Tryd.underlying65 rfl info_span rfl (by simp [go_sem]) rfl ⟨_, _, none, 0, rfl, ⟨by simp, by unfold maxLen; omega, fun h => by (first | rfl | cases h), SlP.nil _ _⟩, ⟨by simp, by decide, fun _ => rfl, SlD.nil _ _⟩, (by (try show Ex _ _); repeat (first | (with_reducible exact ex_refl _) | (with_reducible assumption) | (with_reducible refine ex_drewL ?_) | (with_reducible refine ex_appR ?_ _) | (with_reducible refine ex_wx ?_ _) | (with_reducible refine ex_drew ?_) | (with_reducible refine ex_alloc ?_ _)))⟩
theorem heap_turn (w : World) (o o' : Obj) (X : More) {g : Nat} (hg : g ≠ w.heap.size) : (wx (w.alloc o) X).heap[g]? = (wx (w.alloc o') X).heap[g]? := by
  have hs : (w.alloc o).heap.size = (w.alloc o').heap.size := by simp [go_sem]
  rcases Nat.lt_or_ge g (w.alloc o).heap.size with h | h
  · rw [wx_heap _ _ _ h, wx_heap _ _ _ (by omega)]
    have h2 : g < w.heap.size := by simp [go_sem] at h; omega
    rw [ex_of_alloc _ _ _ h2, ex_of_alloc _ _ _ h2]
  · exact heap_more_eq X hs h
theorem cellsN_turn (w : World) (o o' : Obj) (X : More) {g off m : Nat} (hg : g ≠ w.heap.size) : cellsN (wx (w.alloc o) X) g off m = cellsN (wx (w.alloc o') X) g off m :=
  cellsN_congr fun j _ => by simp only [World.cell?, heap_turn w o o' X hg]
abbrev zSpan : Array Value := #[I 0, I 0, .slice none 0 0, .slice none 0 0]
theorem zSpan_at {w : World} {t : TypeId} {X : More} {off m : Nat} {cs : Array Value} {v : Value} (h : cellsN (wx (w.alloc (.cells zSpan t)) X) w.heap.size off m = some cs) (hm : 0 < m) (hv : cs[0]? = some v) : v = I 0 ∨ v = .slice none 0 0 := by
  have h2 := (cellsN_some.1 h).2 0 hm
  rw [cell_of_row (wx (w.alloc (.cells zSpan t)) X) w.heap.size (off + 0) zSpan t (0, 0) (ex_block (w := w.alloc (.cells zSpan t)) (by (try show Ex _ _); repeat (first | (with_reducible exact ex_refl _) | (with_reducible assumption) | (with_reducible refine ex_drewL ?_) | (with_reducible refine ex_appR ?_ _) | (with_reducible refine ex_wx ?_ _) | (with_reducible refine ex_drew ?_) | (with_reducible refine ex_alloc ?_ _))) (heap_alloc_new w _)), hv] at h2
  rcases off with _ | _ | _ | _ | off
  · exact .inl (by simpa [zSpan] using h2.symm)
  · exact .inl (by simpa [zSpan] using h2.symm)
  · exact .inr (by simpa [zSpan] using h2.symm)
  · exact .inr (by simpa [zSpan] using h2.symm)
  · simp [zSpan] at h2
/-- What lies in memory is not the new span. -/
theorem slp_turn {w : World} {t t' : TypeId} {X : More} {cs : Array Value} {pa : Option Addr} {ps : List Pr} (h : SlP (wx (w.alloc (.cells zSpan t)) X) pa ps) : SlP (wx (w.alloc (.cells cs t')) X) pa ps := by
  rcases h.out with h | ⟨g, off, h1, h2, h3⟩
  · exact ⟨Or.inl h⟩
  · refine ⟨Or.inr ⟨g, off, h1, by simpa [go_sem] using h2, fun i d hd => ?_⟩⟩
    have h4 := h3 i d hd
    have hg : g ≠ w.heap.size := by
      rintro rfl
      rcases zSpan_at h4 (by decide) (v := .string d.1) rfl with h | h <;> cases h
    rw [← h4]; exact cellsN_turn w _ _ X hg
theorem sld_turn {w : World} {t t' : TypeId} {X : More} {cs : Array Value} {pa : Option Addr} {ps : List Dg} (h : SlD (wx (w.alloc (.cells zSpan t)) X) pa ps) : SlD (wx (w.alloc (.cells cs t')) X) pa ps := by
  rcases h.out with h | ⟨g, off, h1, h2, h3⟩
  · exact ⟨Or.inl h⟩
  · refine ⟨Or.inr ⟨g, off, h1, by simpa [go_sem] using h2, fun i d hd => ?_⟩⟩
    have h4 := h3 i d hd
    have hg : g ≠ w.heap.size := by
      rintro rfl
      rcases zSpan_at h4 (by decide) (v := B (dF d 0)) (by rw [rowB_get, if_pos (by decide)]) with h | h <;> cases h
    rw [← h4]; exact cellsN_turn w _ _ X hg
/-- The document's span of whatever right pairs. -/
theorem docproveR_any (l : List Pr) (r : Rg) (a : Option Addr) (c : Nat) (w : World) (hc : l.length ≤ c) (hcm : c ≤ maxLen) (ha : a = none → c = 0) (hs : SlP w a l) (hr : rightP l = true) :
    Calls Tryd.prog 46 #[.slice a l.length c, .agg (RC r)] w (PostSq w l.length (firstP l r) (pairsP l r) (pathS l r)) := by
  rcases Nat.eq_zero_or_pos l.length with h0 | hpos
  · obtain rfl := List.eq_nil_of_length_eq_zero h0
    have h1 : firstP [] r = 0 := rfl
    have h2 : pairsP [] r = [] := by simp [pairsP]
    have h3 : pathS [] r = [] := by simp [pathS]
    rw [h1, h2, h3]
    exact docprove0_any r a c w hcm ha
  · exact docprove_any l r a c w hc hcm ha hs hr hpos
set_option maxHeartbeats 4000000 in
theorem sproves_any (l : List Pr) (a : Option Addr) (c : Nat) (r : Rg) (w : World) (hc : l.length ≤ c) (hcm : c ≤ maxLen) (ha : a = none → c = 0) (hs : SlP w a l) (G : Glob w) :
    Calls Tryd.prog 9 #[.slice a l.length c, .agg (RC r)] w (Post w (.bool true)) := by
  have HW : Hid (∀ w', Ex w w' → Calls Tryd.prog 34 #[] w' (Post w' (.bool true))) := Lib.hid fun w' k => wakesP_any w' (G.ex k)
  have HO : Hid (∀ w', Ex w w' → Calls Tryd.prog 35 #[.slice a l.length c] w' (Post w' (.bool (overP l)))) := Lib.hid fun w' k => overP_any l a c w' hc hcm (hs.ex k)
  have HOR := Lib.hid (fun w' => overR_any r w')
  cases hov : overP l with
  | true =>
    rw [hov] at HO
    obtain ⟨lo, hi, op⟩ := r
    unfold RC at HOR ⊢
    simp only at HOR ⊢
    generalize l.length = n at *
    clear hs hov
    go_enter Tryd.func9, Tryd.ntmps9
    go_wp2_with (first | (go_at_call 34; (with_reducible refine (HW.out _ (by (try show Ex _ _); repeat (first | (with_reducible exact ex_refl _) | (with_reducible assumption) | (with_reducible refine ex_drewL ?_) | (with_reducible refine ex_appR ?_ _) | (with_reducible refine ex_wx ?_ _) | (with_reducible refine ex_drew ?_) | (with_reducible refine ex_alloc ?_ _)))).mono ?_); rintro e w2 ⟨rfl, X, rfl⟩) | (go_at_call 35; (with_reducible refine (HO.out _ (by (try show Ex _ _); repeat (first | (with_reducible exact ex_refl _) | (with_reducible assumption) | (with_reducible refine ex_drewL ?_) | (with_reducible refine ex_appR ?_ _) | (with_reducible refine ex_wx ?_ _) | (with_reducible refine ex_drew ?_) | (with_reducible refine ex_alloc ?_ _)))).mono ?_); rintro e w2 ⟨rfl, X, rfl⟩) | (go_at_call 36; (with_reducible refine (HOR.out _).mono ?_); rintro e w2 ⟨rfl, X, rfl⟩))
    go_ret
    exact post_mk rfl (by (try show Ex _ _); repeat (first | (with_reducible exact ex_refl _) | (with_reducible assumption) | (with_reducible refine ex_drewL ?_) | (with_reducible refine ex_appR ?_ _) | (with_reducible refine ex_wx ?_ _) | (with_reducible refine ex_drew ?_) | (with_reducible refine ex_alloc ?_ _)))
  | false =>
    rw [hov] at HO
    cases hor : overR r with
    | true =>
      rw [hor] at HOR
      obtain ⟨lo, hi, op⟩ := r
      unfold RC at HOR ⊢
      simp only at HOR ⊢
      generalize l.length = n at *
      clear hs hov hor
      go_enter Tryd.func9, Tryd.ntmps9
      go_wp2_with (first | (go_at_call 34; (with_reducible refine (HW.out _ (by (try show Ex _ _); repeat (first | (with_reducible exact ex_refl _) | (with_reducible assumption) | (with_reducible refine ex_drewL ?_) | (with_reducible refine ex_appR ?_ _) | (with_reducible refine ex_wx ?_ _) | (with_reducible refine ex_drew ?_) | (with_reducible refine ex_alloc ?_ _)))).mono ?_); rintro e w2 ⟨rfl, X, rfl⟩) | (go_at_call 35; (with_reducible refine (HO.out _ (by (try show Ex _ _); repeat (first | (with_reducible exact ex_refl _) | (with_reducible assumption) | (with_reducible refine ex_drewL ?_) | (with_reducible refine ex_appR ?_ _) | (with_reducible refine ex_wx ?_ _) | (with_reducible refine ex_drew ?_) | (with_reducible refine ex_alloc ?_ _)))).mono ?_); rintro e w2 ⟨rfl, X, rfl⟩) | (go_at_call 36; (with_reducible refine (HOR.out _).mono ?_); rintro e w2 ⟨rfl, X, rfl⟩))
      go_ret
      exact post_mk rfl (by (try show Ex _ _); repeat (first | (with_reducible exact ex_refl _) | (with_reducible assumption) | (with_reducible refine ex_drewL ?_) | (with_reducible refine ex_appR ?_ _) | (with_reducible refine ex_wx ?_ _) | (with_reducible refine ex_drew ?_) | (with_reducible refine ex_alloc ?_ _)))
    | false =>
      rw [hor] at HOR
      have hl3 := over_len hov
      have HCp : Hid (∀ w', Ex w w' → Calls Tryd.prog 38 #[.slice a l.length c] w' (PostSP l.length l w')) := Lib.hid fun w' k => copied_slice l a c w' (by omega) hc hcm ha (hs.ex k)
      have HRg : Hid (∀ w', Ex w w' → Calls Tryd.prog 42 #[.slice a l.length c] w' (Post w' (.bool (rightP l)))) := Lib.hid fun w' k => Right_any l a c w' hc hcm (hs.ex k)
      cases hr : rightP l with
      | false =>
        have HPb : Hid (∀ pa pc w', l.length ≤ pc → pc ≤ maxLen → SlP w' pa l → Calls Tryd.prog 44 #[.slice pa l.length pc, .agg (RC r)] w' (PostSp w' 0 0 [] [] 250)) := Lib.hid fun pa pc w' h1 h2 h3 => provebad_any l r pa pc w' h1 h2 h3 hr
        have HSS := Lib.hid (fun pa qa pc qc (w' : World) (h2 : pc ≤ maxLen) (g2 : qc ≤ maxLen) => samespan_same 0 0 [] [] pa qa none none pc qc 0 0 w' (Nat.zero_le _) h2 (SlP.nil _ _) (Nat.zero_le _) (by decide) (SlP.nil _ _) (Nat.zero_le _) g2 (SlD.nil _ _) (Nat.zero_le _) (by decide) (SlD.nil _ _))
        rw [hr] at HRg
        obtain ⟨lo, hi, op⟩ := r
        unfold RC at HOR HPb ⊢
        simp only at HOR HPb ⊢
        simp only [List.length_nil] at HSS
        generalize l.length = n at *
        clear hs hov hor hr
        go_enter Tryd.func9, Tryd.ntmps9
        go_wp2_with (first | (go_at_call 34; (with_reducible refine (HW.out _ (by (try show Ex _ _); repeat (first | (with_reducible exact ex_refl _) | (with_reducible assumption) | (with_reducible refine ex_drewL ?_) | (with_reducible refine ex_appR ?_ _) | (with_reducible refine ex_wx ?_ _) | (with_reducible refine ex_drew ?_) | (with_reducible refine ex_alloc ?_ _)))).mono ?_); rintro e w2 ⟨rfl, X, rfl⟩) | (go_at_call 35; (with_reducible refine (HO.out _ (by (try show Ex _ _); repeat (first | (with_reducible exact ex_refl _) | (with_reducible assumption) | (with_reducible refine ex_drewL ?_) | (with_reducible refine ex_appR ?_ _) | (with_reducible refine ex_wx ?_ _) | (with_reducible refine ex_drew ?_) | (with_reducible refine ex_alloc ?_ _)))).mono ?_); rintro e w2 ⟨rfl, X, rfl⟩) | (go_at_call 36; (with_reducible refine (HOR.out _).mono ?_); rintro e w2 ⟨rfl, X, rfl⟩))
        refine wp_world fun A hA => ?_
        have KA : Ex w A := by rw [← hA]; exact (by (try show Ex _ _); repeat (first | (with_reducible exact ex_refl _) | (with_reducible assumption) | (with_reducible refine ex_drewL ?_) | (with_reducible refine ex_appR ?_ _) | (with_reducible refine ex_wx ?_ _) | (with_reducible refine ex_drew ?_) | (with_reducible refine ex_alloc ?_ _)))
        have KR : Ex (w.alloc (.cells #[.string lo, .string hi, .bool op] 55)) A := by rw [← hA]; exact (by (try show Ex _ _); repeat (first | (with_reducible exact ex_refl _) | (with_reducible assumption) | (with_reducible refine ex_drewL ?_) | (with_reducible refine ex_appR ?_ _) | (with_reducible refine ex_wx ?_ _) | (with_reducible refine ex_drew ?_) | (with_reducible refine ex_alloc ?_ _)))
        have hb8 := ex_block KR (heap_alloc_new _ _)
        have r0 := (block_cell (o := 0) hb8 rfl).1
        have r1 := (block_cell (o := 1) hb8 rfl).1
        have r2 := (block_cell (o := 2) hb8 rfl).1
        have r3 : w.heap.size < A.heap.size := (Array.getElem?_eq_some_iff.1 hb8).1
        clear hb8
        clear hA KR HW HO HOR
        refine wp_region_fork (A) (.look 0 (.look 2 (.fork 1 (.fork 3 (.look 4 (.look 5 (.look 6 (.eff 7 (.eff 8 (.look 9 .done)))))) 7 (.eff 3 (.look 4 (.look 5 (.look 6 (.eff 8 (.look 9 .done))))))) 7 (.eff 1 (.eff 3 (.look 4 (.look 5 (.look 6 (.eff 8 (.look 9 .done)))))))))) (by (try show Ex _ _); repeat (first | (with_reducible exact ex_refl _) | (with_reducible assumption) | (with_reducible refine ex_drewL ?_) | (with_reducible refine ex_appR ?_ _) | (with_reducible refine ex_wx ?_ _) | (with_reducible refine ex_drew ?_) | (with_reducible refine ex_alloc ?_ _))) (by kernel_rfl) (by kernel_rfl) (fun _ _ d _ _ h => by cases d <;> exact h) ?_
        simp only [Fk.ops, nth]
        repeat (first | ((with_reducible refine wpFork_look ?_); go_big_quiet_step (fail); (try (with_reducible refine wpQuiet_nil ?_))) | (with_reducible refine wpFork_eff ?_) | ((with_reducible refine effT_F ?_ ?_); (focus rfl); go_simp) | ((with_reducible refine effT_T ?_ ?_); (focus rfl); (try dsimp only); go_wp2_with (first | (go_at_call 38; (with_reducible refine (HCp.out _ (by (try show Ex _ _); repeat (first | (with_reducible exact ex_refl _) | (with_reducible assumption) | (with_reducible refine ex_drewL ?_) | (with_reducible refine ex_appR ?_ _) | (with_reducible refine ex_wx ?_ _) | (with_reducible refine ex_drew ?_) | (with_reducible refine ex_alloc ?_ _)))).mono ?_); rintro e w2 ⟨pa, pc, rfl, ⟨u1, u2, _, u4⟩, X, rfl⟩; (try simp only [wx_wx, wx_drew] at u4); replace u4 := Lib.hid u4) | (go_at_call 44; (with_reducible refine (HPb.out _ _ _ u1 u2 (u4.out.ex (by (try show Ex _ _); repeat (first | (with_reducible exact ex_refl _) | (with_reducible assumption) | (with_reducible refine ex_drewL ?_) | (with_reducible refine ex_appR ?_ _) | (with_reducible refine ex_wx ?_ _) | (with_reducible refine ex_drew ?_) | (with_reducible refine ex_alloc ?_ _))))).mono ?_); rintro e w2 ⟨pa, pc, qa, qc, rfl, ⟨p1, p2, p3, p4⟩, ⟨v1, v2, v3, v4⟩, X, rfl⟩; clear u1 u2 u4 p4 v4)); refine mixQ_mk (by (try show Ex _ _); repeat (first | (with_reducible exact ex_refl _) | (with_reducible assumption) | (with_reducible refine ex_drewL ?_) | (with_reducible refine ex_appR ?_ _) | (with_reducible refine ex_wx ?_ _) | (with_reducible refine ex_drew ?_) | (with_reducible refine ex_alloc ?_ _))) ?_))
        all_goals (try (with_reducible refine wpFork_fork ?_ ?_))
        all_goals repeat (first | ((with_reducible refine wpFork_look ?_); go_big_quiet_step (fail); (try (with_reducible refine wpQuiet_nil ?_))) | (with_reducible refine wpFork_eff ?_) | ((with_reducible refine effT_F ?_ ?_); (focus rfl); go_simp) | ((with_reducible refine effT_T ?_ ?_); (focus rfl); (try dsimp only); go_wp2_with (first | (go_at_call 38; (with_reducible refine (HCp.out _ (by (try show Ex _ _); repeat (first | (with_reducible exact ex_refl _) | (with_reducible assumption) | (with_reducible refine ex_drewL ?_) | (with_reducible refine ex_appR ?_ _) | (with_reducible refine ex_wx ?_ _) | (with_reducible refine ex_drew ?_) | (with_reducible refine ex_alloc ?_ _)))).mono ?_); rintro e w2 ⟨pa, pc, rfl, ⟨u1, u2, _, u4⟩, X, rfl⟩; (try simp only [wx_wx, wx_drew] at u4); replace u4 := Lib.hid u4) | (go_at_call 44; (with_reducible refine (HPb.out _ _ _ u1 u2 (u4.out.ex (by (try show Ex _ _); repeat (first | (with_reducible exact ex_refl _) | (with_reducible assumption) | (with_reducible refine ex_drewL ?_) | (with_reducible refine ex_appR ?_ _) | (with_reducible refine ex_wx ?_ _) | (with_reducible refine ex_drew ?_) | (with_reducible refine ex_alloc ?_ _))))).mono ?_); rintro e w2 ⟨pa, pc, qa, qc, rfl, ⟨p1, p2, p3, p4⟩, ⟨v1, v2, v3, v4⟩, X, rfl⟩; clear u1 u2 u4 p4 v4)); refine mixQ_mk (by (try show Ex _ _); repeat (first | (with_reducible exact ex_refl _) | (with_reducible assumption) | (with_reducible refine ex_drewL ?_) | (with_reducible refine ex_appR ?_ _) | (with_reducible refine ex_wx ?_ _) | (with_reducible refine ex_drew ?_) | (with_reducible refine ex_alloc ?_ _))) ?_))
        all_goals (try (with_reducible refine wpFork_fork ?_ ?_))
        all_goals repeat (first | ((with_reducible refine wpFork_look ?_); go_big_quiet_step (fail); (try (with_reducible refine wpQuiet_nil ?_))) | (with_reducible refine wpFork_eff ?_) | ((with_reducible refine effT_F ?_ ?_); (focus rfl); go_simp) | ((with_reducible refine effT_T ?_ ?_); (focus rfl); (try dsimp only); go_wp2_with (first | (go_at_call 38; (with_reducible refine (HCp.out _ (by (try show Ex _ _); repeat (first | (with_reducible exact ex_refl _) | (with_reducible assumption) | (with_reducible refine ex_drewL ?_) | (with_reducible refine ex_appR ?_ _) | (with_reducible refine ex_wx ?_ _) | (with_reducible refine ex_drew ?_) | (with_reducible refine ex_alloc ?_ _)))).mono ?_); rintro e w2 ⟨pa, pc, rfl, ⟨u1, u2, _, u4⟩, X, rfl⟩; (try simp only [wx_wx, wx_drew] at u4); replace u4 := Lib.hid u4) | (go_at_call 44; (with_reducible refine (HPb.out _ _ _ u1 u2 (u4.out.ex (by (try show Ex _ _); repeat (first | (with_reducible exact ex_refl _) | (with_reducible assumption) | (with_reducible refine ex_drewL ?_) | (with_reducible refine ex_appR ?_ _) | (with_reducible refine ex_wx ?_ _) | (with_reducible refine ex_drew ?_) | (with_reducible refine ex_alloc ?_ _))))).mono ?_); rintro e w2 ⟨pa, pc, qa, qc, rfl, ⟨p1, p2, p3, p4⟩, ⟨v1, v2, v3, v4⟩, X, rfl⟩; clear u1 u2 u4 p4 v4)); refine mixQ_mk (by (try show Ex _ _); repeat (first | (with_reducible exact ex_refl _) | (with_reducible assumption) | (with_reducible refine ex_drewL ?_) | (with_reducible refine ex_appR ?_ _) | (with_reducible refine ex_wx ?_ _) | (with_reducible refine ex_drew ?_) | (with_reducible refine ex_alloc ?_ _))) ?_))
        all_goals (with_reducible refine wpFork_nil ?_)
        all_goals
          go_wp2_with (first | (go_at_call 42; (with_reducible refine (HRg.out _ (by (try show Ex _ _); repeat (first | (with_reducible exact ex_refl _) | (with_reducible assumption) | (with_reducible refine ex_drewL ?_) | (with_reducible refine ex_appR ?_ _) | (with_reducible refine ex_wx ?_ _) | (with_reducible refine ex_drew ?_) | (with_reducible refine ex_alloc ?_ _)))).mono ?_); rintro e w2 ⟨rfl, X, rfl⟩) | (go_at_call 45; (with_reducible refine (HSS.out _ _ _ _ _ p2 v2).mono ?_); rintro e w2 ⟨rfl, X, rfl⟩))
          go_ret
          exact post_mk rfl (by (try show Ex _ _); repeat (first | (with_reducible exact ex_refl _) | (with_reducible assumption) | (with_reducible refine ex_drewL ?_) | (with_reducible refine ex_appR ?_ _) | (with_reducible refine ex_wx ?_ _) | (with_reducible refine ex_drew ?_) | (with_reducible refine ex_alloc ?_ _)))
      | true =>
        have HPv : Hid (∀ pa pc w', Ex w w' → l.length ≤ pc → pc ≤ maxLen → (pa = none → pc = 0) → SlP w' pa l → Calls Tryd.prog 44 #[.slice pa l.length pc, .agg (RC r)] w' (PostSp w' l.length (firstP l r) (pairsP l r) (pathS l r) 0)) := Lib.hid fun pa pc w' k h1 h2 h3 h4 => prove_any (G.ex k) l r pa pc w' (ex_refl _) h1 h2 h3 h4 hr
        have HDv : Hid (∀ w', Ex w w' → Calls Tryd.prog 46 #[.slice a l.length c, .agg (RC r)] w' (PostSq w' l.length (firstP l r) (pairsP l r) (pathS l r))) := Lib.hid fun w' k => docproveR_any l r a c w' hc hcm ha (hs.ex k) hr
        rw [hr] at HRg
        generalize pathS l r = qs at *
        generalize pairsP l r = ps at *
        generalize firstP l r = F at *
        have HSS := Lib.hid (fun pa qa pa' qa' pc qc pc' qc' (w' : World) h1 h2 h3 h4 h5 h6 g1 g2 g3 g4 g5 g6 => samespan_same l.length F ps qs pa qa pa' qa' pc qc pc' qc' w' h1 h2 h3 h4 h5 h6 g1 g2 g3 g4 g5 g6)
        obtain ⟨L1, hL1⟩ : ∃ L1, ps.length = L1 := ⟨_, rfl⟩
        obtain ⟨L2, hL2⟩ : ∃ L2, qs.length = L2 := ⟨_, rfl⟩
        unfold PostSp at HPv
        unfold PostSq at HDv
        rw [hL1, hL2] at HPv HDv HSS
        obtain ⟨lo, hi, op⟩ := r
        unfold RC at HOR HPv HDv ⊢
        simp only at HOR HPv HDv ⊢
        generalize l.length = n at *
        clear hs hov hor hr hL1 hL2
        go_enter Tryd.func9, Tryd.ntmps9
        go_wp2_with (first | (go_at_call 34; (with_reducible refine (HW.out _ (by (try show Ex _ _); repeat (first | (with_reducible exact ex_refl _) | (with_reducible assumption) | (with_reducible refine ex_drewL ?_) | (with_reducible refine ex_appR ?_ _) | (with_reducible refine ex_wx ?_ _) | (with_reducible refine ex_drew ?_) | (with_reducible refine ex_alloc ?_ _)))).mono ?_); rintro e w2 ⟨rfl, X, rfl⟩) | (go_at_call 35; (with_reducible refine (HO.out _ (by (try show Ex _ _); repeat (first | (with_reducible exact ex_refl _) | (with_reducible assumption) | (with_reducible refine ex_drewL ?_) | (with_reducible refine ex_appR ?_ _) | (with_reducible refine ex_wx ?_ _) | (with_reducible refine ex_drew ?_) | (with_reducible refine ex_alloc ?_ _)))).mono ?_); rintro e w2 ⟨rfl, X, rfl⟩) | (go_at_call 36; (with_reducible refine (HOR.out _).mono ?_); rintro e w2 ⟨rfl, X, rfl⟩))
        refine wp_world fun A hA => ?_
        have KA : Ex w A := by rw [← hA]; exact (by (try show Ex _ _); repeat (first | (with_reducible exact ex_refl _) | (with_reducible assumption) | (with_reducible refine ex_drewL ?_) | (with_reducible refine ex_appR ?_ _) | (with_reducible refine ex_wx ?_ _) | (with_reducible refine ex_drew ?_) | (with_reducible refine ex_alloc ?_ _)))
        have KR : Ex (w.alloc (.cells #[.string lo, .string hi, .bool op] 55)) A := by rw [← hA]; exact (by (try show Ex _ _); repeat (first | (with_reducible exact ex_refl _) | (with_reducible assumption) | (with_reducible refine ex_drewL ?_) | (with_reducible refine ex_appR ?_ _) | (with_reducible refine ex_wx ?_ _) | (with_reducible refine ex_drew ?_) | (with_reducible refine ex_alloc ?_ _)))
        have hb8 := ex_block KR (heap_alloc_new _ _)
        have r0 := (block_cell (o := 0) hb8 rfl).1
        have r1 := (block_cell (o := 1) hb8 rfl).1
        have r2 := (block_cell (o := 2) hb8 rfl).1
        have r3 : w.heap.size < A.heap.size := (Array.getElem?_eq_some_iff.1 hb8).1
        clear hb8 hA KR HW HO HOR
        refine wp_region_fork (A) (.look 0 (.look 2 (.fork 1 (.fork 3 (.look 4 (.look 5 (.look 6 (.eff 7 (.eff 8 (.look 9 .done)))))) 7 (.eff 3 (.look 4 (.look 5 (.look 6 (.eff 8 (.look 9 .done))))))) 7 (.eff 1 (.eff 3 (.look 4 (.look 5 (.look 6 (.eff 8 (.look 9 .done)))))))))) (by (try show Ex _ _); repeat (first | (with_reducible exact ex_refl _) | (with_reducible assumption) | (with_reducible refine ex_drewL ?_) | (with_reducible refine ex_appR ?_ _) | (with_reducible refine ex_wx ?_ _) | (with_reducible refine ex_drew ?_) | (with_reducible refine ex_alloc ?_ _))) (by kernel_rfl) (by kernel_rfl) (fun _ _ d _ _ h => by cases d <;> exact h) ?_
        simp only [Fk.ops, nth]
        repeat (first | ((with_reducible refine wpFork_look ?_); go_big_quiet_step (fail); (try (with_reducible refine wpQuiet_nil ?_))) | (with_reducible refine wpFork_eff ?_) | ((with_reducible refine effT_F ?_ ?_); (focus rfl); go_simp) | ((with_reducible refine effT_T ?_ ?_); (focus rfl); (try dsimp only); go_wp2_with (first | (go_at_call 38; (with_reducible refine (HCp.out _ (by (try show Ex _ _); repeat (first | (with_reducible exact ex_refl _) | (with_reducible assumption) | (with_reducible refine ex_drewL ?_) | (with_reducible refine ex_appR ?_ _) | (with_reducible refine ex_wx ?_ _) | (with_reducible refine ex_drew ?_) | (with_reducible refine ex_alloc ?_ _)))).mono ?_); rintro e w2 ⟨pa, pc, rfl, ⟨u1, u2, u3, u4⟩, X, rfl⟩; (try simp only [wx_wx, wx_drew] at u4); replace u4 := Lib.hid u4; replace u3 := Lib.hid u3) | (go_at_call 44; (with_reducible refine (HPv.out _ _ _ (by (try show Ex _ _); repeat (first | (with_reducible exact ex_refl _) | (with_reducible assumption) | (with_reducible refine ex_drewL ?_) | (with_reducible refine ex_appR ?_ _) | (with_reducible refine ex_wx ?_ _) | (with_reducible refine ex_drew ?_) | (with_reducible refine ex_alloc ?_ _))) u1 u2 u3.out (u4.out.ex (by (try show Ex _ _); repeat (first | (with_reducible exact ex_refl _) | (with_reducible assumption) | (with_reducible refine ex_drewL ?_) | (with_reducible refine ex_appR ?_ _) | (with_reducible refine ex_wx ?_ _) | (with_reducible refine ex_drew ?_) | (with_reducible refine ex_alloc ?_ _))))).mono ?_); rintro e w2 ⟨pa, pc, qa, qc, rfl, ⟨p1, p2, p3, p4⟩, ⟨v1, v2, v3, v4⟩, X, rfl⟩; (try simp only [wx_wx, wx_drew] at p4 v4); replace p4 := Lib.hid p4; replace v4 := Lib.hid v4; clear u1 u2 u3 u4 p3 v3)); refine mixQ_mk (by (try show Ex _ _); repeat (first | (with_reducible exact ex_refl _) | (with_reducible assumption) | (with_reducible refine ex_drewL ?_) | (with_reducible refine ex_appR ?_ _) | (with_reducible refine ex_wx ?_ _) | (with_reducible refine ex_drew ?_) | (with_reducible refine ex_alloc ?_ _))) ?_))
        all_goals (try (with_reducible refine wpFork_fork ?_ ?_))
        all_goals repeat (first | ((with_reducible refine wpFork_look ?_); go_big_quiet_step (fail); (try (with_reducible refine wpQuiet_nil ?_))) | (with_reducible refine wpFork_eff ?_) | ((with_reducible refine effT_F ?_ ?_); (focus rfl); go_simp) | ((with_reducible refine effT_T ?_ ?_); (focus rfl); (try dsimp only); go_wp2_with (first | (go_at_call 38; (with_reducible refine (HCp.out _ (by (try show Ex _ _); repeat (first | (with_reducible exact ex_refl _) | (with_reducible assumption) | (with_reducible refine ex_drewL ?_) | (with_reducible refine ex_appR ?_ _) | (with_reducible refine ex_wx ?_ _) | (with_reducible refine ex_drew ?_) | (with_reducible refine ex_alloc ?_ _)))).mono ?_); rintro e w2 ⟨pa, pc, rfl, ⟨u1, u2, u3, u4⟩, X, rfl⟩; (try simp only [wx_wx, wx_drew] at u4); replace u4 := Lib.hid u4; replace u3 := Lib.hid u3) | (go_at_call 44; (with_reducible refine (HPv.out _ _ _ (by (try show Ex _ _); repeat (first | (with_reducible exact ex_refl _) | (with_reducible assumption) | (with_reducible refine ex_drewL ?_) | (with_reducible refine ex_appR ?_ _) | (with_reducible refine ex_wx ?_ _) | (with_reducible refine ex_drew ?_) | (with_reducible refine ex_alloc ?_ _))) u1 u2 u3.out (u4.out.ex (by (try show Ex _ _); repeat (first | (with_reducible exact ex_refl _) | (with_reducible assumption) | (with_reducible refine ex_drewL ?_) | (with_reducible refine ex_appR ?_ _) | (with_reducible refine ex_wx ?_ _) | (with_reducible refine ex_drew ?_) | (with_reducible refine ex_alloc ?_ _))))).mono ?_); rintro e w2 ⟨pa, pc, qa, qc, rfl, ⟨p1, p2, p3, p4⟩, ⟨v1, v2, v3, v4⟩, X, rfl⟩; (try simp only [wx_wx, wx_drew] at p4 v4); replace p4 := Lib.hid p4; replace v4 := Lib.hid v4; clear u1 u2 u3 u4 p3 v3)); refine mixQ_mk (by (try show Ex _ _); repeat (first | (with_reducible exact ex_refl _) | (with_reducible assumption) | (with_reducible refine ex_drewL ?_) | (with_reducible refine ex_appR ?_ _) | (with_reducible refine ex_wx ?_ _) | (with_reducible refine ex_drew ?_) | (with_reducible refine ex_alloc ?_ _))) ?_))
        all_goals (try (with_reducible refine wpFork_fork ?_ ?_))
        all_goals repeat (first | ((with_reducible refine wpFork_look ?_); go_big_quiet_step (fail); (try (with_reducible refine wpQuiet_nil ?_))) | (with_reducible refine wpFork_eff ?_) | ((with_reducible refine effT_F ?_ ?_); (focus rfl); go_simp) | ((with_reducible refine effT_T ?_ ?_); (focus rfl); (try dsimp only); go_wp2_with (first | (go_at_call 38; (with_reducible refine (HCp.out _ (by (try show Ex _ _); repeat (first | (with_reducible exact ex_refl _) | (with_reducible assumption) | (with_reducible refine ex_drewL ?_) | (with_reducible refine ex_appR ?_ _) | (with_reducible refine ex_wx ?_ _) | (with_reducible refine ex_drew ?_) | (with_reducible refine ex_alloc ?_ _)))).mono ?_); rintro e w2 ⟨pa, pc, rfl, ⟨u1, u2, u3, u4⟩, X, rfl⟩; (try simp only [wx_wx, wx_drew] at u4); replace u4 := Lib.hid u4; replace u3 := Lib.hid u3) | (go_at_call 44; (with_reducible refine (HPv.out _ _ _ (by (try show Ex _ _); repeat (first | (with_reducible exact ex_refl _) | (with_reducible assumption) | (with_reducible refine ex_drewL ?_) | (with_reducible refine ex_appR ?_ _) | (with_reducible refine ex_wx ?_ _) | (with_reducible refine ex_drew ?_) | (with_reducible refine ex_alloc ?_ _))) u1 u2 u3.out (u4.out.ex (by (try show Ex _ _); repeat (first | (with_reducible exact ex_refl _) | (with_reducible assumption) | (with_reducible refine ex_drewL ?_) | (with_reducible refine ex_appR ?_ _) | (with_reducible refine ex_wx ?_ _) | (with_reducible refine ex_drew ?_) | (with_reducible refine ex_alloc ?_ _))))).mono ?_); rintro e w2 ⟨pa, pc, qa, qc, rfl, ⟨p1, p2, p3, p4⟩, ⟨v1, v2, v3, v4⟩, X, rfl⟩; (try simp only [wx_wx, wx_drew] at p4 v4); replace p4 := Lib.hid p4; replace v4 := Lib.hid v4; clear u1 u2 u3 u4 p3 v3)); refine mixQ_mk (by (try show Ex _ _); repeat (first | (with_reducible exact ex_refl _) | (with_reducible assumption) | (with_reducible refine ex_drewL ?_) | (with_reducible refine ex_appR ?_ _) | (with_reducible refine ex_wx ?_ _) | (with_reducible refine ex_drew ?_) | (with_reducible refine ex_alloc ?_ _))) ?_))
        all_goals (with_reducible refine wpFork_nil ?_)
        all_goals
          clear HCp HPv
          go_wp2_with (go_at_call 42; (with_reducible refine (HRg.out _ (by (try show Ex _ _); repeat (first | (with_reducible exact ex_refl _) | (with_reducible assumption) | (with_reducible refine ex_drewL ?_) | (with_reducible refine ex_appR ?_ _) | (with_reducible refine ex_wx ?_ _) | (with_reducible refine ex_drew ?_) | (with_reducible refine ex_alloc ?_ _)))).mono ?_); rintro e w2 ⟨rfl, X, rfl⟩)
          refine wp_region_seq [(0, true), (1, true), (2, true), (3, true), (4, true), (5, true), (6, false), (7, false), (8, true), (9, true)] (by kernel_rfl) (by kernel_rfl) (fun _ _ d _ _ h => by cases d <;> exact h) ?_
          simp only [List.map_cons, List.map_nil, nth]
          repeat (first | ((with_reducible refine wpSeq_look ?_); go_big_quiet_step (fail); (with_reducible refine wpQuiet_nil ?_)) | ((with_reducible refine wpSeq_effF ?_ ?_); (focus rfl); go_simp) | ((with_reducible refine wpSeq_eff ?_ ?_); (focus rfl); (try dsimp only); go_wp2_with (first | (go_at_call 46; (with_reducible refine (HDv.out _ (by (try show Ex _ _); repeat (first | (with_reducible exact ex_refl _) | (with_reducible assumption) | (with_reducible refine ex_drewL ?_) | (with_reducible refine ex_appR ?_ _) | (with_reducible refine ex_wx ?_ _) | (with_reducible refine ex_drew ?_) | (with_reducible refine ex_alloc ?_ _)))).mono ?_); rintro e w3 ⟨pa2, pc2, qa2, qc2, rfl, ⟨g1, g2, _, g4⟩, ⟨h1, h2, _, h4⟩, X, rfl⟩; (try simp only [wx_wx, wx_drew] at g4 h4); replace g4 := Lib.hid g4; replace h4 := Lib.hid h4) | (go_at_call 45; (with_reducible refine (HSS.out _ _ _ _ _ _ _ _ _ p1 p2 (by first | (refine p4.out.ex ?_; ((try show Ex _ _); (repeat (first | (with_reducible exact ex_refl _) | (with_reducible assumption) | (with_reducible refine ex_drewL ?_) | (with_reducible refine ex_appR ?_ _) | (with_reducible refine ex_wx ?_ _) | (with_reducible refine ex_drew ?_) | (with_reducible refine ex_alloc ?_ _))); done)) | (refine (slp_turn (cs := #[I n, I F, .slice pa L1 pc, .slice qa L2 qc]) (t' := 65) p4.out).ex ?_; ((try show Ex _ _); (repeat (first | (with_reducible exact ex_refl _) | (with_reducible assumption) | (with_reducible refine ex_drewL ?_) | (with_reducible refine ex_appR ?_ _) | (with_reducible refine ex_wx ?_ _) | (with_reducible refine ex_drew ?_) | (with_reducible refine ex_alloc ?_ _))); done))) g1 g2 (g4.out.ex (by (try show Ex _ _); repeat (first | (with_reducible exact ex_refl _) | (with_reducible assumption) | (with_reducible refine ex_drewL ?_) | (with_reducible refine ex_appR ?_ _) | (with_reducible refine ex_wx ?_ _) | (with_reducible refine ex_drew ?_) | (with_reducible refine ex_alloc ?_ _)))) v1 v2 (by first | (refine v4.out.ex ?_; ((try show Ex _ _); (repeat (first | (with_reducible exact ex_refl _) | (with_reducible assumption) | (with_reducible refine ex_drewL ?_) | (with_reducible refine ex_appR ?_ _) | (with_reducible refine ex_wx ?_ _) | (with_reducible refine ex_drew ?_) | (with_reducible refine ex_alloc ?_ _))); done)) | (refine (sld_turn (cs := #[I n, I F, .slice pa L1 pc, .slice qa L2 qc]) (t' := 65) v4.out).ex ?_; ((try show Ex _ _); (repeat (first | (with_reducible exact ex_refl _) | (with_reducible assumption) | (with_reducible refine ex_drewL ?_) | (with_reducible refine ex_appR ?_ _) | (with_reducible refine ex_wx ?_ _) | (with_reducible refine ex_drew ?_) | (with_reducible refine ex_alloc ?_ _))); done))) h1 h2 (h4.out.ex (by (try show Ex _ _); repeat (first | (with_reducible exact ex_refl _) | (with_reducible assumption) | (with_reducible refine ex_drewL ?_) | (with_reducible refine ex_appR ?_ _) | (with_reducible refine ex_wx ?_ _) | (with_reducible refine ex_drew ?_) | (with_reducible refine ex_alloc ?_ _))))).mono ?_); rintro e w2 ⟨rfl, X, rfl⟩)); refine mixQ_mk (by (try show Ex _ _); repeat (first | (with_reducible exact ex_refl _) | (with_reducible assumption) | (with_reducible refine ex_drewL ?_) | (with_reducible refine ex_appR ?_ _) | (with_reducible refine ex_wx ?_ _) | (with_reducible refine ex_drew ?_) | (with_reducible refine ex_alloc ?_ _))) ?_))
          refine wpSeq_nil ?_
          go_wp2
          go_ret
          exact post_mk rfl (by (try show Ex _ _); repeat (first | (with_reducible exact ex_refl _) | (with_reducible assumption) | (with_reducible refine ex_drewL ?_) | (with_reducible refine ex_appR ?_ _) | (with_reducible refine ex_wx ?_ _) | (with_reducible refine ex_drew ?_) | (with_reducible refine ex_alloc ?_ _)))
end Go.Proofs.YtbobamifpjlmiaaDoor
