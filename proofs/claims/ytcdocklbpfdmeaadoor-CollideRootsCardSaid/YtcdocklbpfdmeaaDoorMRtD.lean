import Derived.Test.YtcdocklbpfdmeaaDoorMPh

/- CollideRoots: the law. -/
set_option linter.unusedSimpArgs false
set_option linter.unusedVariables false
set_option linter.unnecessarySimpa false
set_option maxRecDepth 20000
namespace Go.Proofs.YtcdocklbpfdmeaaDoor
open Go.RowKit
theorem info_listG : (Tryd.prog.info? 63).map (·.size) = some 2 := by kernel_rfl
@[go_sem] theorem load_listG (b o : Nat) (w : World) : loadRun Tryd.prog 63 (.pointer (some ⟨b, o, none⟩)) w = match cellsN w b o 2 with | some cs => .ok (.value (.agg cs)) w | none => loadRaw Tryd.prog 63 (.pointer (some ⟨b, o, none⟩)) w := loadRun_row Tryd.underlying63 rfl info_listG b o w
@[go_sem] theorem store_listG (b o : Nat) (vs : Array Value) (w : World) : storeRun Tryd.prog 63 (.pointer (some ⟨b, o, none⟩)) (.agg vs) w = if (vs.size == 2 && (cellsN w b o 2).isSome && !frozenN w b o 2 && oneCells vs) = true then .ok .skip (w.setCells b o vs.toList) else storeRaw Tryd.prog 63 (.pointer (some ⟨b, o, none⟩)) (.agg vs) w := storeRun_row info_listG b o vs w
@[go_sem] theorem make_rb (l c : Int) (w : World) : (Instr.makeSlice 56 (.int .i64 l) (.int .i64 c)).run Tryd.prog w = if 0 ≤ l ∧ l ≤ c ∧ ((24 : Nat) : Int) * c ≤ 281474976710656 ∧ c ≤ 9223372036854775807 then
    .ok (.slice (some ⟨w.heap.size, 0, none⟩) l.toNat c.toNat) (w.alloc (.cells (manyC (.slice none 0 0) (c.toNat * 1)) 35)) else makeRaw Tryd.prog 56 (.int .i64 l) (.int .i64 c) w := make_rule appSl l c w
theorem rootV_is (W : Int) (l : List (List UInt8)) (hl : l.length ≤ 16) : ∃ (fx : Nat → UInt8) (e : Int), rootV W l = .tuple #[.agg (rowB 32 fx), I e] ∧
    ((wideB W = false ∧ fx = (fun _ => 0) ∧ e = 2) ∨ (wideB W = true ∧ fx = dF (rootC (sumW W.toNat) l) ∧ e = 0)) := by
  unfold rootV
  cases hw : wideB W with
  | false => exact ⟨_, _, rfl, Or.inl ⟨rfl, rfl, rfl⟩⟩
  | true => rw [if_neg (by decide), if_neg (by omega)]; exact ⟨_, _, rfl, Or.inr ⟨rfl, rfl, rfl⟩⟩
theorem crownV_is (W : Int) (l : List Pr) : ∃ (fy : Nat → UInt8) (e : Int), crownV W l = .tuple #[.agg (rowB 32 fy), I e] ∧
    ((wideB W = false ∧ fy = (fun _ => 0) ∧ e = 2) ∨ (wideB W = true ∧ rightP l = false ∧ fy = (fun _ => 0) ∧ e = 250) ∨ (wideB W = true ∧ rightP l = true ∧ fy = dF (crownC (sumW W.toNat) l) ∧ e = 0)) := by
  unfold crownV
  cases hw : wideB W with
  | false => exact ⟨_, _, rfl, Or.inl ⟨rfl, rfl, rfl⟩⟩
  | true =>
    rw [if_neg (by decide)]
    cases hr : rightP l with
    | false => exact ⟨_, _, rfl, Or.inr (Or.inl ⟨rfl, rfl, rfl, rfl⟩)⟩
    | true => exact ⟨_, _, rfl, Or.inr (Or.inr ⟨rfl, rfl, rfl, rfl⟩)⟩
set_option maxHeartbeats 2000000 in
theorem rootsC_any (W : Int) (l : List (List UInt8)) (a : Option Addr) (c : Nat) (lp : List Pr) (a2 : Option Addr) (c2 : Nat) (w : World) (G : Glob w) (hc : l.length ≤ c) (hcm : c ≤ maxLen) (hc2 : lp.length ≤ c2) (hcm2 : c2 ≤ maxLen) (hs : SlLs w a l) (hs2 : SlP w a2 lp) :
    Calls Tryd.prog 7 #[.agg #[I W, .slice a l.length c], .slice a2 lp.length c2] w (Post w (.bool true)) := by
  have HWk := Lib.hid fun w' (k : Ex w w') => wakesC_any w' (G.ex k)
  have HLv := Lib.hid fun w' (k : Ex w w') => leaves_any W l a c w' hc hcm (hs.ex k)
  have HCl := Lib.hid fun w' (k : Ex w w') => cellsL_any lp a2 c2 w' hc2 hcm2 (hs2.ex k)
  have hsh := Lib.hid (lvL_short l)
  have hll := lvL_len l
  generalize lvL l = lv at HLv hsh hll
  obtain ⟨qs, hqe⟩ : ∃ qs, cellsT lp = qs := ⟨_, rfl⟩
  rw [hqe] at HCl
  have HQ := Lib.hid hqe.symm
  clear hqe
  have HWd := Lib.hid fun w' => refwide_any W w'
  obtain ⟨fx, e6, hx, hxc⟩ := rootV_is W lv hll
  obtain ⟨fy, e8, hy, hyc⟩ := crownV_is W qs
  have HRt : Hid (∀ w' la lc, Ex w w' → lv.length ≤ lc → lc ≤ maxLen → SlLs w' la lv → Calls Tryd.prog 42 #[I W, .slice la lv.length lc] w' (Post w' (.tuple #[.agg (rowB 32 fx), I e6]))) := Lib.hid fun w' la lc k h1 h2 h3 => by
    rw [← hx]; exact wRoot_any G W lv la lc w' h1 h2 (fun _ => ⟨h3, hsh.out⟩) k
  have HCr : Hid (∀ w' la lc, Ex w w' → qs.length ≤ lc → lc ≤ maxLen → SlP w' la qs → Calls Tryd.prog 43 #[I W, .slice la qs.length lc] w' (Post w' (.tuple #[.agg (rowB 32 fy), I e8]))) := Lib.hid fun w' la lc k h1 h2 h3 => by
    rw [← hy]; exact wCrown_any G W qs la lc w' h1 h2 h3 k
  generalize l.length = n at *
  generalize lp.length = n2 at *
  unfold maxLen at hcm hcm2
  have HXY := Lib.hid (And.intro hxc hyc)
  clear hs hs2 hx hy hxc hyc
  obtain ⟨A1, hA1⟩ : ∃ A1, w.alloc (.cells #[I W, .slice a n c] 63) = A1 := ⟨_, rfl⟩
  have hwA : Ex w A1 := by rw [← hA1]; exact (by (try show Ex _ _); repeat (first | (with_reducible exact ex_refl _) | (with_reducible assumption) | (with_reducible refine ex_drewL ?_) | (with_reducible refine ex_appR ?_ _) | (with_reducible refine ex_wx ?_ _) | (with_reducible refine ex_drew ?_) | (with_reducible refine ex_alloc ?_ _)))
  have hb2 : A1.heap[w.heap.size]? = some (.cells #[I W, .slice a n c] 63 (0, 0)) := by rw [← hA1]; exact heap_alloc_new w _
  obtain ⟨p, hp⟩ : ∃ p, w.heap.size = p := ⟨_, rfl⟩
  rw [hp] at hb2
  have p2 := (block_cellsF (n := 2) hb2 rfl).1
  have p20 := (block_cellF (o := 0) (v := I W) hb2 rfl).1
  have zp := cell_lt p20
  have HA := Lib.hid (And.intro hA1 hp)
  clear hb2 hA1 hp
  go_enter Tryd.func7, Tryd.ntmps7
  go_wp2_with (go_at_call 11; (with_reducible refine (HWk.out _ (by (try show Ex _ _); repeat (first | (with_reducible exact ex_refl _) | (with_reducible assumption) | (with_reducible refine ex_drewL ?_) | (with_reducible refine ex_appR ?_ _) | (with_reducible refine ex_wx ?_ _) | (with_reducible refine ex_drew ?_) | (with_reducible refine ex_alloc ?_ _)))).mono ?_); rintro e w2 ⟨rfl, X, rfl⟩)
  rw [HA.out.1, HA.out.2]
  clear HA
  refine wp_mid (fun a0 a' w' => ∃ (b5 : Nat), a'.tmps.getD 5 undef = .pointer (some ⟨b5, 0, none⟩) ∧ a'.tmps.getD 6 undef = I e6 ∧
    a' = ((((((((((a0.put (some 17) (a'.tmps.getD 17 undef)).put (some 18) (a'.tmps.getD 18 undef)).put (some 19) (a'.tmps.getD 19 undef)).put (some 20) (a'.tmps.getD 20 undef)).put (some 21) (a'.tmps.getD 21 undef)).put (some 16) (a'.tmps.getD 16 undef)).put (some 22) (a'.tmps.getD 22 undef)).put (some 23) (a'.tmps.getD 23 undef)).put (some 5) (a'.tmps.getD 5 undef)).put (some 6) (a'.tmps.getD 6 undef)) ∧
    Hid (cellsN w' b5 0 32 = some (rowB 32 fx)) ∧ b5 < w'.heap.size ∧ Hid (Ex A1 w')) ?_ ?_
  · refine wp_region_forkJ (A1) (.look 0 (.look 1 (.look 2 (.fork 3 (.fork 4 (.look 5 (.look 6 (.look 7 (.eff 8 (.eff 9 (.look 10 .done)))))) 8 (.eff 4 (.look 5 (.look 6 (.look 7 (.eff 9 (.look 10 .done))))))) 8 (.eff 3 (.eff 4 (.look 5 (.look 6 (.look 7 (.eff 9 (.look 10 .done))))))))))) (by (try show Ex _ _); repeat (first | (with_reducible exact ex_refl _) | (with_reducible assumption) | (with_reducible refine ex_drewL ?_) | (with_reducible refine ex_appR ?_ _) | (with_reducible refine ex_wx ?_ _) | (with_reducible refine ex_drew ?_) | (with_reducible refine ex_alloc ?_ _))) (by kernel_rfl) (by kernel_rfl) (fun _ _ d _ _ h => by cases d <;> exact h) ?_
    simp only [Fj.ops, nth]
    repeat (first | ((with_reducible refine wpForkJ_look ?_); go_big_quiet_step (fail); (try (with_reducible refine wpQuiet_nil ?_))) | (with_reducible refine wpForkJ_eff ?_) | ((with_reducible refine effT_F ?_ ?_); (focus rfl); go_simp) | ((with_reducible refine effT_T ?_ ?_); (focus rfl); (try dsimp only); go_wp2_with (first | (go_at_call 28; (with_reducible refine (HLv.out _ (ex_trans hwA (by (try show Ex _ _); repeat (first | (with_reducible exact ex_refl _) | (with_reducible assumption) | (with_reducible refine ex_drewL ?_) | (with_reducible refine ex_appR ?_ _) | (with_reducible refine ex_wx ?_ _) | (with_reducible refine ex_drew ?_) | (with_reducible refine ex_alloc ?_ _))))).mono ?_); rintro e w' ⟨ov2, rfl, h5, X5, rfl⟩; (try simp only [wx_wx, wx_drew] at h5); obtain ⟨la5, lc5, rfl, f1, f2, _, f4⟩ := h5.sl; clear h5; replace f4 := Lib.hid f4) | (go_at_call 42; (with_reducible refine (HRt.out _ _ _ (ex_trans hwA (by (try show Ex _ _); repeat (first | (with_reducible exact ex_refl _) | (with_reducible assumption) | (with_reducible refine ex_drewL ?_) | (with_reducible refine ex_appR ?_ _) | (with_reducible refine ex_wx ?_ _) | (with_reducible refine ex_drew ?_) | (with_reducible refine ex_alloc ?_ _)))) f1 f2 (f4.out.ex (by (try show Ex _ _); repeat (first | (with_reducible exact ex_refl _) | (with_reducible assumption) | (with_reducible refine ex_drewL ?_) | (with_reducible refine ex_appR ?_ _) | (with_reducible refine ex_wx ?_ _) | (with_reducible refine ex_drew ?_) | (with_reducible refine ex_alloc ?_ _))))).mono ?_); rintro e w' ⟨rfl, X8, rfl⟩)); refine mixQ_mk (by (try show Ex _ _); repeat (first | (with_reducible exact ex_refl _) | (with_reducible assumption) | (with_reducible refine ex_drewL ?_) | (with_reducible refine ex_appR ?_ _) | (with_reducible refine ex_wx ?_ _) | (with_reducible refine ex_drew ?_) | (with_reducible refine ex_alloc ?_ _))) ?_))
    all_goals (try (first | (with_reducible refine wpForkJ_fork ?_ ?_) | (with_reducible refine wpForkJ_three ?_ ?_ ?_)))
    all_goals repeat (first | ((with_reducible refine wpForkJ_look ?_); go_big_quiet_step (fail); (try (with_reducible refine wpQuiet_nil ?_))) | (with_reducible refine wpForkJ_eff ?_) | ((with_reducible refine effT_F ?_ ?_); (focus rfl); go_simp) | ((with_reducible refine effT_T ?_ ?_); (focus rfl); (try dsimp only); go_wp2_with (first | (go_at_call 28; (with_reducible refine (HLv.out _ (ex_trans hwA (by (try show Ex _ _); repeat (first | (with_reducible exact ex_refl _) | (with_reducible assumption) | (with_reducible refine ex_drewL ?_) | (with_reducible refine ex_appR ?_ _) | (with_reducible refine ex_wx ?_ _) | (with_reducible refine ex_drew ?_) | (with_reducible refine ex_alloc ?_ _))))).mono ?_); rintro e w' ⟨ov2, rfl, h5, X5, rfl⟩; (try simp only [wx_wx, wx_drew] at h5); obtain ⟨la5, lc5, rfl, f1, f2, _, f4⟩ := h5.sl; clear h5; replace f4 := Lib.hid f4) | (go_at_call 42; (with_reducible refine (HRt.out _ _ _ (ex_trans hwA (by (try show Ex _ _); repeat (first | (with_reducible exact ex_refl _) | (with_reducible assumption) | (with_reducible refine ex_drewL ?_) | (with_reducible refine ex_appR ?_ _) | (with_reducible refine ex_wx ?_ _) | (with_reducible refine ex_drew ?_) | (with_reducible refine ex_alloc ?_ _)))) f1 f2 (f4.out.ex (by (try show Ex _ _); repeat (first | (with_reducible exact ex_refl _) | (with_reducible assumption) | (with_reducible refine ex_drewL ?_) | (with_reducible refine ex_appR ?_ _) | (with_reducible refine ex_wx ?_ _) | (with_reducible refine ex_drew ?_) | (with_reducible refine ex_alloc ?_ _))))).mono ?_); rintro e w' ⟨rfl, X8, rfl⟩)); refine mixQ_mk (by (try show Ex _ _); repeat (first | (with_reducible exact ex_refl _) | (with_reducible assumption) | (with_reducible refine ex_drewL ?_) | (with_reducible refine ex_appR ?_ _) | (with_reducible refine ex_wx ?_ _) | (with_reducible refine ex_drew ?_) | (with_reducible refine ex_alloc ?_ _))) ?_))
    all_goals (try (first | (with_reducible refine wpForkJ_fork ?_ ?_) | (with_reducible refine wpForkJ_three ?_ ?_ ?_)))
    all_goals repeat (first | ((with_reducible refine wpForkJ_look ?_); go_big_quiet_step (fail); (try (with_reducible refine wpQuiet_nil ?_))) | (with_reducible refine wpForkJ_eff ?_) | ((with_reducible refine effT_F ?_ ?_); (focus rfl); go_simp) | ((with_reducible refine effT_T ?_ ?_); (focus rfl); (try dsimp only); go_wp2_with (first | (go_at_call 28; (with_reducible refine (HLv.out _ (ex_trans hwA (by (try show Ex _ _); repeat (first | (with_reducible exact ex_refl _) | (with_reducible assumption) | (with_reducible refine ex_drewL ?_) | (with_reducible refine ex_appR ?_ _) | (with_reducible refine ex_wx ?_ _) | (with_reducible refine ex_drew ?_) | (with_reducible refine ex_alloc ?_ _))))).mono ?_); rintro e w' ⟨ov2, rfl, h5, X5, rfl⟩; (try simp only [wx_wx, wx_drew] at h5); obtain ⟨la5, lc5, rfl, f1, f2, _, f4⟩ := h5.sl; clear h5; replace f4 := Lib.hid f4) | (go_at_call 42; (with_reducible refine (HRt.out _ _ _ (ex_trans hwA (by (try show Ex _ _); repeat (first | (with_reducible exact ex_refl _) | (with_reducible assumption) | (with_reducible refine ex_drewL ?_) | (with_reducible refine ex_appR ?_ _) | (with_reducible refine ex_wx ?_ _) | (with_reducible refine ex_drew ?_) | (with_reducible refine ex_alloc ?_ _)))) f1 f2 (f4.out.ex (by (try show Ex _ _); repeat (first | (with_reducible exact ex_refl _) | (with_reducible assumption) | (with_reducible refine ex_drewL ?_) | (with_reducible refine ex_appR ?_ _) | (with_reducible refine ex_wx ?_ _) | (with_reducible refine ex_drew ?_) | (with_reducible refine ex_alloc ?_ _))))).mono ?_); rintro e w' ⟨rfl, X8, rfl⟩)); refine mixQ_mk (by (try show Ex _ _); repeat (first | (with_reducible exact ex_refl _) | (with_reducible assumption) | (with_reducible refine ex_drewL ?_) | (with_reducible refine ex_appR ?_ _) | (with_reducible refine ex_wx ?_ _) | (with_reducible refine ex_drew ?_) | (with_reducible refine ex_alloc ?_ _))) ?_))
    all_goals (with_reducible refine wpForkJ_nil ?_)
    all_goals
      exact ⟨_, rfl, rfl, by kernel_rfl, Lib.hid (by simp [go_sem] <;> (intro h9; exfalso; omega)), (by simp [go_sem] <;> omega), Lib.hid (by (try show Ex _ _); repeat (first | (with_reducible exact ex_refl _) | (with_reducible assumption) | (with_reducible refine ex_drewL ?_) | (with_reducible refine ex_appR ?_ _) | (with_reducible refine ex_wx ?_ _) | (with_reducible refine ex_drew ?_) | (with_reducible refine ex_alloc ?_ _)))⟩
  rintro a0 W3 ⟨b5, g5, g6, ha0, hd5, hb5, hk3⟩
  rw [g5, g6] at ha0
  clear g5 g6
  generalize a0.tmps.getD 17 undef = u17 at ha0
  generalize a0.tmps.getD 18 undef = u18 at ha0
  generalize a0.tmps.getD 19 undef = u19 at ha0
  generalize a0.tmps.getD 20 undef = u20 at ha0
  generalize a0.tmps.getD 21 undef = u21 at ha0
  generalize a0.tmps.getD 16 undef = u16 at ha0
  generalize a0.tmps.getD 22 undef = u22 at ha0
  generalize a0.tmps.getD 23 undef = u23 at ha0
  subst ha0
  have q2 := cellsN_exF p2 zp hk3.out
  have zq := Nat.lt_of_lt_of_le zp (ex_size hk3.out)
  have q20 : W3.cell? ⟨p, 0, none⟩ = some (I W) := (cellsN_some.1 q2).2 0 (by decide)
  have hw3 : Hid (Ex w W3) := Lib.hid (ex_trans hwA hk3.out)
  have hx5 := hd5.out
  clear p2 p20 zp
  have hqs : qs.length ≤ 14 := by rw [HQ.out]; unfold cellsT; rw [List.length_map, List.length_take]; omega
  go_wp2_with (go_at_call 12; (with_reducible refine (HCl.out _ (ex_trans hw3.out (by (try show Ex _ _); repeat (first | (with_reducible exact ex_refl _) | (with_reducible assumption) | (with_reducible refine ex_drewL ?_) | (with_reducible refine ex_appR ?_ _) | (with_reducible refine ex_wx ?_ _) | (with_reducible refine ex_drew ?_) | (with_reducible refine ex_alloc ?_ _))))).mono ?_); rintro e w' ⟨v4, rfl, h4, hv4, X9, rfl⟩; (try simp only [wx_wx, wx_drew] at h4); obtain ⟨pa, pc, rfl, f1p, f2p, f3p, f4p⟩ := h4.slg; clear h4; replace hv4 := Lib.hid hv4; replace f4p := Lib.hid f4p)
  refine wp_mid (fun a0 a' w' => ∃ (b7 : Nat), a'.tmps.getD 7 undef = .pointer (some ⟨b7, 0, none⟩) ∧ a'.tmps.getD 8 undef = I e8 ∧
    a' = (((((((((((a0.put (some 27) (a'.tmps.getD 27 undef)).put (some 28) (a'.tmps.getD 28 undef)).put (some 29) (a'.tmps.getD 29 undef)).put (some 30) (a'.tmps.getD 30 undef)).put (some 31) (a'.tmps.getD 31 undef)).put (some 32) (a'.tmps.getD 32 undef)).put (some 26) (a'.tmps.getD 26 undef)).put (some 33) (a'.tmps.getD 33 undef)).put (some 34) (a'.tmps.getD 34 undef)).put (some 7) (a'.tmps.getD 7 undef)).put (some 8) (a'.tmps.getD 8 undef)) ∧
    Hid (cellsN w' b7 0 32 = some (rowB 32 fy)) ∧ b7 < w'.heap.size ∧ Hid (Ex (wx W3 X9) w')) ?_ ?_
  · cases pa with
    | none =>
      obtain rfl := f3p rfl
      have hq0 : qs = [] := List.eq_nil_of_length_eq_zero (by omega)
      have HC0 : Hid (∀ w' a, Ex w w' → Calls Tryd.prog 43 #[I W, .slice a 0 0] w' (Post w' (.tuple #[.agg (rowB 32 fy), I e8]))) := Lib.hid fun w' a k => by
        have := HCr.out w' a 0 k (by rw [hq0]; simp) (by decide) (by rw [hq0]; exact SlP.nil _ _)
        rwa [hq0] at this
      rw [hq0] at f4p ⊢
      clear hq0 f1p
      refine wp_region_forkJ (W3) (.look 0 (.look 1 (.look 3 (.fork 2 (.fork 4 (.fork 5 (.look 6 (.look 7 (.look 8 (.eff 9 (.eff 10 (.look 11 .done)))))) 9 (.eff 5 (.look 6 (.look 7 (.look 8 (.eff 10 (.look 11 .done))))))) 9 (.eff 4 (.eff 5 (.look 6 (.look 7 (.look 8 (.eff 10 (.look 11 .done)))))))) 9 (.eff 2 (.eff 4 (.eff 5 (.look 6 (.look 7 (.look 8 (.eff 10 (.look 11 .done)))))))))))) (by (try show Ex _ _); repeat (first | (with_reducible exact ex_refl _) | (with_reducible assumption) | (with_reducible refine ex_drewL ?_) | (with_reducible refine ex_appR ?_ _) | (with_reducible refine ex_wx ?_ _) | (with_reducible refine ex_drew ?_) | (with_reducible refine ex_alloc ?_ _))) (by kernel_rfl) (by kernel_rfl) (fun _ _ d _ _ h => by cases d <;> exact h) ?_
      simp only [Fj.ops, nth]
      repeat (first | ((with_reducible refine wpForkJ_look ?_); go_big_quiet_step (fail); (try (with_reducible refine wpQuiet_nil ?_))) | (with_reducible refine wpForkJ_eff ?_) | ((with_reducible refine effT_F ?_ ?_); (focus rfl); go_simp) | ((with_reducible refine effT_T ?_ ?_); (focus rfl); (try dsimp only); go_wp2_with ((go_at_call 43; (with_reducible refine (HC0.out _ _ (ex_trans hw3.out (by (try show Ex _ _); repeat (first | (with_reducible exact ex_refl _) | (with_reducible assumption) | (with_reducible refine ex_drewL ?_) | (with_reducible refine ex_appR ?_ _) | (with_reducible refine ex_wx ?_ _) | (with_reducible refine ex_drew ?_) | (with_reducible refine ex_alloc ?_ _))))).mono ?_); rintro e w' ⟨rfl, X13, rfl⟩)); refine mixQ_mk (by (try show Ex _ _); repeat (first | (with_reducible exact ex_refl _) | (with_reducible assumption) | (with_reducible refine ex_drewL ?_) | (with_reducible refine ex_appR ?_ _) | (with_reducible refine ex_wx ?_ _) | (with_reducible refine ex_drew ?_) | (with_reducible refine ex_alloc ?_ _))) ?_))
      all_goals (try (first | (with_reducible refine wpForkJ_fork ?_ ?_) | (with_reducible refine wpForkJ_three ?_ ?_ ?_)))
      all_goals repeat (first | ((with_reducible refine wpForkJ_look ?_); go_big_quiet_step (fail); (try (with_reducible refine wpQuiet_nil ?_))) | (with_reducible refine wpForkJ_eff ?_) | ((with_reducible refine effT_F ?_ ?_); (focus rfl); go_simp) | ((with_reducible refine effT_T ?_ ?_); (focus rfl); (try dsimp only); go_wp2_with ((go_at_call 43; (with_reducible refine (HC0.out _ _ (ex_trans hw3.out (by (try show Ex _ _); repeat (first | (with_reducible exact ex_refl _) | (with_reducible assumption) | (with_reducible refine ex_drewL ?_) | (with_reducible refine ex_appR ?_ _) | (with_reducible refine ex_wx ?_ _) | (with_reducible refine ex_drew ?_) | (with_reducible refine ex_alloc ?_ _))))).mono ?_); rintro e w' ⟨rfl, X13, rfl⟩)); refine mixQ_mk (by (try show Ex _ _); repeat (first | (with_reducible exact ex_refl _) | (with_reducible assumption) | (with_reducible refine ex_drewL ?_) | (with_reducible refine ex_appR ?_ _) | (with_reducible refine ex_wx ?_ _) | (with_reducible refine ex_drew ?_) | (with_reducible refine ex_alloc ?_ _))) ?_))
      all_goals (try (first | (with_reducible refine wpForkJ_fork ?_ ?_) | (with_reducible refine wpForkJ_three ?_ ?_ ?_)))
      all_goals repeat (first | ((with_reducible refine wpForkJ_look ?_); go_big_quiet_step (fail); (try (with_reducible refine wpQuiet_nil ?_))) | (with_reducible refine wpForkJ_eff ?_) | ((with_reducible refine effT_F ?_ ?_); (focus rfl); go_simp) | ((with_reducible refine effT_T ?_ ?_); (focus rfl); (try dsimp only); go_wp2_with ((go_at_call 43; (with_reducible refine (HC0.out _ _ (ex_trans hw3.out (by (try show Ex _ _); repeat (first | (with_reducible exact ex_refl _) | (with_reducible assumption) | (with_reducible refine ex_drewL ?_) | (with_reducible refine ex_appR ?_ _) | (with_reducible refine ex_wx ?_ _) | (with_reducible refine ex_drew ?_) | (with_reducible refine ex_alloc ?_ _))))).mono ?_); rintro e w' ⟨rfl, X13, rfl⟩)); refine mixQ_mk (by (try show Ex _ _); repeat (first | (with_reducible exact ex_refl _) | (with_reducible assumption) | (with_reducible refine ex_drewL ?_) | (with_reducible refine ex_appR ?_ _) | (with_reducible refine ex_wx ?_ _) | (with_reducible refine ex_drew ?_) | (with_reducible refine ex_alloc ?_ _))) ?_))
      all_goals (try (first | (with_reducible refine wpForkJ_fork ?_ ?_) | (with_reducible refine wpForkJ_three ?_ ?_ ?_)))
      all_goals repeat (first | ((with_reducible refine wpForkJ_look ?_); go_big_quiet_step (fail); (try (with_reducible refine wpQuiet_nil ?_))) | (with_reducible refine wpForkJ_eff ?_) | ((with_reducible refine effT_F ?_ ?_); (focus rfl); go_simp) | ((with_reducible refine effT_T ?_ ?_); (focus rfl); (try dsimp only); go_wp2_with ((go_at_call 43; (with_reducible refine (HC0.out _ _ (ex_trans hw3.out (by (try show Ex _ _); repeat (first | (with_reducible exact ex_refl _) | (with_reducible assumption) | (with_reducible refine ex_drewL ?_) | (with_reducible refine ex_appR ?_ _) | (with_reducible refine ex_wx ?_ _) | (with_reducible refine ex_drew ?_) | (with_reducible refine ex_alloc ?_ _))))).mono ?_); rintro e w' ⟨rfl, X13, rfl⟩)); refine mixQ_mk (by (try show Ex _ _); repeat (first | (with_reducible exact ex_refl _) | (with_reducible assumption) | (with_reducible refine ex_drewL ?_) | (with_reducible refine ex_appR ?_ _) | (with_reducible refine ex_wx ?_ _) | (with_reducible refine ex_drew ?_) | (with_reducible refine ex_alloc ?_ _))) ?_))
      all_goals (with_reducible refine wpForkJ_nil ?_)
      all_goals
        exact ⟨_, rfl, rfl, by kernel_rfl, Lib.hid (by simp [go_sem] <;> (intro h9; exfalso; omega)), (by simp [go_sem] <;> omega), Lib.hid (by (try show Ex _ _); repeat (first | (with_reducible exact ex_refl _) | (with_reducible assumption) | (with_reducible refine ex_drewL ?_) | (with_reducible refine ex_appR ?_ _) | (with_reducible refine ex_wx ?_ _) | (with_reducible refine ex_drew ?_) | (with_reducible refine ex_alloc ?_ _)))⟩
    | some ad =>
      clear f3p
      have hql : qs.length ≤ 1000000 := by omega
      have hpos : 0 < qs.length := by
        rcases hv4.out with h | h
        · cases h
        · exact h
      refine wp_region_forkJ (W3) (.look 0 (.look 1 (.look 3 (.fork 2 (.fork 4 (.fork 5 (.look 6 (.look 7 (.look 8 (.eff 9 (.eff 10 (.look 11 .done)))))) 9 (.eff 5 (.look 6 (.look 7 (.look 8 (.eff 10 (.look 11 .done))))))) 9 (.eff 4 (.eff 5 (.look 6 (.look 7 (.look 8 (.eff 10 (.look 11 .done)))))))) 9 (.eff 2 (.eff 4 (.eff 5 (.look 6 (.look 7 (.look 8 (.eff 10 (.look 11 .done)))))))))))) (by (try show Ex _ _); repeat (first | (with_reducible exact ex_refl _) | (with_reducible assumption) | (with_reducible refine ex_drewL ?_) | (with_reducible refine ex_appR ?_ _) | (with_reducible refine ex_wx ?_ _) | (with_reducible refine ex_drew ?_) | (with_reducible refine ex_alloc ?_ _))) (by kernel_rfl) (by kernel_rfl) (fun _ _ d _ _ h => by cases d <;> exact h) ?_
      simp only [Fj.ops, nth]
      repeat (first | ((with_reducible refine wpForkJ_look ?_); go_big_quiet_step (fail); (try (with_reducible refine wpQuiet_nil ?_))) | (with_reducible refine wpForkJ_eff ?_) | ((with_reducible refine effT_F ?_ ?_); (focus rfl); go_simp) | ((with_reducible refine effT_T ?_ ?_); (focus rfl); (try dsimp only); go_wp2_with (first | (at_builtin; refine wpAppPE (r := qs) _ _ rfl rfl rfl rfl rfl (f4p.out.ex (by (try show Ex _ _); repeat (first | (with_reducible exact ex_refl _) | (with_reducible assumption) | (with_reducible refine ex_drewL ?_) | (with_reducible refine ex_appR ?_ _) | (with_reducible refine ex_wx ?_ _) | (with_reducible refine ex_drew ?_) | (with_reducible refine ex_alloc ?_ _)))) hpos hql (fun v1 w1 hown hbe => ?_); obtain ⟨X12, rfl⟩ := hbe; (try simp only [wx_wx, wx_drew] at hown); obtain ⟨pa5, pc5, rfl, j1, j2, _, j4⟩ := hown.slg; clear hown; replace j4 := Lib.hid j4) | (go_at_call 43; (with_reducible refine (HCr.out _ _ _ (ex_trans hw3.out (by (try show Ex _ _); repeat (first | (with_reducible exact ex_refl _) | (with_reducible assumption) | (with_reducible refine ex_drewL ?_) | (with_reducible refine ex_appR ?_ _) | (with_reducible refine ex_wx ?_ _) | (with_reducible refine ex_drew ?_) | (with_reducible refine ex_alloc ?_ _)))) j1 j2 (j4.out.ex (by (try show Ex _ _); repeat (first | (with_reducible exact ex_refl _) | (with_reducible assumption) | (with_reducible refine ex_drewL ?_) | (with_reducible refine ex_appR ?_ _) | (with_reducible refine ex_wx ?_ _) | (with_reducible refine ex_drew ?_) | (with_reducible refine ex_alloc ?_ _))))).mono ?_); rintro e w' ⟨rfl, X13, rfl⟩)); refine mixQ_mk (by (try show Ex _ _); repeat (first | (with_reducible exact ex_refl _) | (with_reducible assumption) | (with_reducible refine ex_drewL ?_) | (with_reducible refine ex_appR ?_ _) | (with_reducible refine ex_wx ?_ _) | (with_reducible refine ex_drew ?_) | (with_reducible refine ex_alloc ?_ _))) ?_))
      all_goals (try (first | (with_reducible refine wpForkJ_fork ?_ ?_) | (with_reducible refine wpForkJ_three ?_ ?_ ?_)))
      all_goals repeat (first | ((with_reducible refine wpForkJ_look ?_); go_big_quiet_step (fail); (try (with_reducible refine wpQuiet_nil ?_))) | (with_reducible refine wpForkJ_eff ?_) | ((with_reducible refine effT_F ?_ ?_); (focus rfl); go_simp) | ((with_reducible refine effT_T ?_ ?_); (focus rfl); (try dsimp only); go_wp2_with (first | (at_builtin; refine wpAppPE (r := qs) _ _ rfl rfl rfl rfl rfl (f4p.out.ex (by (try show Ex _ _); repeat (first | (with_reducible exact ex_refl _) | (with_reducible assumption) | (with_reducible refine ex_drewL ?_) | (with_reducible refine ex_appR ?_ _) | (with_reducible refine ex_wx ?_ _) | (with_reducible refine ex_drew ?_) | (with_reducible refine ex_alloc ?_ _)))) hpos hql (fun v1 w1 hown hbe => ?_); obtain ⟨X12, rfl⟩ := hbe; (try simp only [wx_wx, wx_drew] at hown); obtain ⟨pa5, pc5, rfl, j1, j2, _, j4⟩ := hown.slg; clear hown; replace j4 := Lib.hid j4) | (go_at_call 43; (with_reducible refine (HCr.out _ _ _ (ex_trans hw3.out (by (try show Ex _ _); repeat (first | (with_reducible exact ex_refl _) | (with_reducible assumption) | (with_reducible refine ex_drewL ?_) | (with_reducible refine ex_appR ?_ _) | (with_reducible refine ex_wx ?_ _) | (with_reducible refine ex_drew ?_) | (with_reducible refine ex_alloc ?_ _)))) j1 j2 (j4.out.ex (by (try show Ex _ _); repeat (first | (with_reducible exact ex_refl _) | (with_reducible assumption) | (with_reducible refine ex_drewL ?_) | (with_reducible refine ex_appR ?_ _) | (with_reducible refine ex_wx ?_ _) | (with_reducible refine ex_drew ?_) | (with_reducible refine ex_alloc ?_ _))))).mono ?_); rintro e w' ⟨rfl, X13, rfl⟩)); refine mixQ_mk (by (try show Ex _ _); repeat (first | (with_reducible exact ex_refl _) | (with_reducible assumption) | (with_reducible refine ex_drewL ?_) | (with_reducible refine ex_appR ?_ _) | (with_reducible refine ex_wx ?_ _) | (with_reducible refine ex_drew ?_) | (with_reducible refine ex_alloc ?_ _))) ?_))
      all_goals (try (first | (with_reducible refine wpForkJ_fork ?_ ?_) | (with_reducible refine wpForkJ_three ?_ ?_ ?_)))
      all_goals repeat (first | ((with_reducible refine wpForkJ_look ?_); go_big_quiet_step (fail); (try (with_reducible refine wpQuiet_nil ?_))) | (with_reducible refine wpForkJ_eff ?_) | ((with_reducible refine effT_F ?_ ?_); (focus rfl); go_simp) | ((with_reducible refine effT_T ?_ ?_); (focus rfl); (try dsimp only); go_wp2_with (first | (at_builtin; refine wpAppPE (r := qs) _ _ rfl rfl rfl rfl rfl (f4p.out.ex (by (try show Ex _ _); repeat (first | (with_reducible exact ex_refl _) | (with_reducible assumption) | (with_reducible refine ex_drewL ?_) | (with_reducible refine ex_appR ?_ _) | (with_reducible refine ex_wx ?_ _) | (with_reducible refine ex_drew ?_) | (with_reducible refine ex_alloc ?_ _)))) hpos hql (fun v1 w1 hown hbe => ?_); obtain ⟨X12, rfl⟩ := hbe; (try simp only [wx_wx, wx_drew] at hown); obtain ⟨pa5, pc5, rfl, j1, j2, _, j4⟩ := hown.slg; clear hown; replace j4 := Lib.hid j4) | (go_at_call 43; (with_reducible refine (HCr.out _ _ _ (ex_trans hw3.out (by (try show Ex _ _); repeat (first | (with_reducible exact ex_refl _) | (with_reducible assumption) | (with_reducible refine ex_drewL ?_) | (with_reducible refine ex_appR ?_ _) | (with_reducible refine ex_wx ?_ _) | (with_reducible refine ex_drew ?_) | (with_reducible refine ex_alloc ?_ _)))) j1 j2 (j4.out.ex (by (try show Ex _ _); repeat (first | (with_reducible exact ex_refl _) | (with_reducible assumption) | (with_reducible refine ex_drewL ?_) | (with_reducible refine ex_appR ?_ _) | (with_reducible refine ex_wx ?_ _) | (with_reducible refine ex_drew ?_) | (with_reducible refine ex_alloc ?_ _))))).mono ?_); rintro e w' ⟨rfl, X13, rfl⟩)); refine mixQ_mk (by (try show Ex _ _); repeat (first | (with_reducible exact ex_refl _) | (with_reducible assumption) | (with_reducible refine ex_drewL ?_) | (with_reducible refine ex_appR ?_ _) | (with_reducible refine ex_wx ?_ _) | (with_reducible refine ex_drew ?_) | (with_reducible refine ex_alloc ?_ _))) ?_))
      all_goals (try (first | (with_reducible refine wpForkJ_fork ?_ ?_) | (with_reducible refine wpForkJ_three ?_ ?_ ?_)))
      all_goals repeat (first | ((with_reducible refine wpForkJ_look ?_); go_big_quiet_step (fail); (try (with_reducible refine wpQuiet_nil ?_))) | (with_reducible refine wpForkJ_eff ?_) | ((with_reducible refine effT_F ?_ ?_); (focus rfl); go_simp) | ((with_reducible refine effT_T ?_ ?_); (focus rfl); (try dsimp only); go_wp2_with (first | (at_builtin; refine wpAppPE (r := qs) _ _ rfl rfl rfl rfl rfl (f4p.out.ex (by (try show Ex _ _); repeat (first | (with_reducible exact ex_refl _) | (with_reducible assumption) | (with_reducible refine ex_drewL ?_) | (with_reducible refine ex_appR ?_ _) | (with_reducible refine ex_wx ?_ _) | (with_reducible refine ex_drew ?_) | (with_reducible refine ex_alloc ?_ _)))) hpos hql (fun v1 w1 hown hbe => ?_); obtain ⟨X12, rfl⟩ := hbe; (try simp only [wx_wx, wx_drew] at hown); obtain ⟨pa5, pc5, rfl, j1, j2, _, j4⟩ := hown.slg; clear hown; replace j4 := Lib.hid j4) | (go_at_call 43; (with_reducible refine (HCr.out _ _ _ (ex_trans hw3.out (by (try show Ex _ _); repeat (first | (with_reducible exact ex_refl _) | (with_reducible assumption) | (with_reducible refine ex_drewL ?_) | (with_reducible refine ex_appR ?_ _) | (with_reducible refine ex_wx ?_ _) | (with_reducible refine ex_drew ?_) | (with_reducible refine ex_alloc ?_ _)))) j1 j2 (j4.out.ex (by (try show Ex _ _); repeat (first | (with_reducible exact ex_refl _) | (with_reducible assumption) | (with_reducible refine ex_drewL ?_) | (with_reducible refine ex_appR ?_ _) | (with_reducible refine ex_wx ?_ _) | (with_reducible refine ex_drew ?_) | (with_reducible refine ex_alloc ?_ _))))).mono ?_); rintro e w' ⟨rfl, X13, rfl⟩)); refine mixQ_mk (by (try show Ex _ _); repeat (first | (with_reducible exact ex_refl _) | (with_reducible assumption) | (with_reducible refine ex_drewL ?_) | (with_reducible refine ex_appR ?_ _) | (with_reducible refine ex_wx ?_ _) | (with_reducible refine ex_drew ?_) | (with_reducible refine ex_alloc ?_ _))) ?_))
      all_goals (with_reducible refine wpForkJ_nil ?_)
      all_goals
        exact ⟨_, rfl, rfl, by kernel_rfl, Lib.hid (by simp [go_sem] <;> (intro h9; exfalso; omega)), (by simp [go_sem] <;> omega), Lib.hid (by (try show Ex _ _); repeat (first | (with_reducible exact ex_refl _) | (with_reducible assumption) | (with_reducible refine ex_drewL ?_) | (with_reducible refine ex_appR ?_ _) | (with_reducible refine ex_wx ?_ _) | (with_reducible refine ex_drew ?_) | (with_reducible refine ex_alloc ?_ _)))⟩
  rintro a0 W4 ⟨b7, g7, g8, ha0, hd7, hb7, hk4⟩
  rw [g7, g8] at ha0
  clear g7 g8
  generalize a0.tmps.getD 27 undef = u27 at ha0
  generalize a0.tmps.getD 28 undef = u28 at ha0
  generalize a0.tmps.getD 29 undef = u29 at ha0
  generalize a0.tmps.getD 30 undef = u30 at ha0
  generalize a0.tmps.getD 31 undef = u31 at ha0
  generalize a0.tmps.getD 32 undef = u32 at ha0
  generalize a0.tmps.getD 26 undef = u26 at ha0
  generalize a0.tmps.getD 33 undef = u33 at ha0
  generalize a0.tmps.getD 34 undef = u34 at ha0
  subst ha0
  have hk34 : Ex W3 W4 := ex_trans ⟨X9, rfl⟩ hk4.out
  have r2 := cellsN_exF q2 zq hk34
  have zr := Nat.lt_of_lt_of_le zq (ex_size hk34)
  have r20 : W4.cell? ⟨p, 0, none⟩ = some (I W) := (cellsN_some.1 r2).2 0 (by decide)
  have d5 := cellsN_exF hx5 hb5 hk34
  have z5 := Nat.lt_of_lt_of_le hb5 (ex_size hk34)
  have d7 := hd7.out
  have hw4 : Hid (Ex w W4) := Lib.hid (ex_trans hw3.out hk34)
  have HRi : Hid (∀ w', Ex W4 w' → Calls Tryd.prog 45 #[.slice pa qs.length pc] w' (Post w' (.bool (rightP qs)))) := Lib.hid fun w' k => Right_any qs pa pc w' f1p f2p (f4p.out.ex (ex_trans hk4.out k))
  have HP4 := Lib.hid (f4p.out.ex hk4.out)
  clear q2 zq q20 hx5 hb5 hk4 hk34 hd5 hd7 hk3 f4p HCl HRt HCr hv4 f3p HWk
  obtain ⟨hxc, hyc⟩ := HXY.out
  have hZ := eqF_same (fun _ : Nat => (0 : UInt8)) 32
  rcases hxc with ⟨hw, rfl, rfl⟩ | ⟨hw, rfl, rfl⟩
  · rcases hyc with ⟨_, rfl, rfl⟩ | ⟨hw2, _⟩ | ⟨hw2, _⟩
    · rw [hw] at HWd
      clear hw HXY
      go_wp2_with (go_at_call 25; (with_reducible refine (HWd.out _).mono ?_); rintro e w' ⟨rfl, X6, rfl⟩)
      go_ret
      exact post_mk rfl (ex_trans hw4.out (by (try show Ex _ _); repeat (first | (with_reducible exact ex_refl _) | (with_reducible assumption) | (with_reducible refine ex_drewL ?_) | (with_reducible refine ex_appR ?_ _) | (with_reducible refine ex_wx ?_ _) | (with_reducible refine ex_drew ?_) | (with_reducible refine ex_alloc ?_ _))))
    · rw [hw] at hw2; cases hw2
    · rw [hw] at hw2; cases hw2
  · have hw2 := of_decide_eq_true hw
    obtain ⟨N, rfl⟩ : ∃ N : Nat, W = N := ⟨W.toNat, by omega⟩
    rw [Int.toNat_natCast] at d5 hyc
    have HRr : Hid (∀ w' la lc, lv.length ≤ lc → lc ≤ maxLen → SlLs w' la lv → Calls Tryd.prog 44 #[I N, .slice la lv.length lc] w' (Post w' (.agg (rowB 32 (dF (rootC (sumW N) lv)))))) := Lib.hid fun w' la lc h1 h2 h3 => by
      have := refrootN_any N (by omega) lv.length lv la lc w' rfl (by omega) h1 h2 h3 hsh.out
      rwa [← rootC_top] at this
    have hE := eqF_same (dF (rootC (sumW N) lv)) 32
    generalize rootC (sumW N) lv = rt at HRr hE d5
    rcases hyc with ⟨hw3, _⟩ | ⟨_, hr, rfl, rfl⟩ | ⟨_, hr, rfl, rfl⟩
    · rw [hw] at hw3; cases hw3
    · rw [hw] at HWd
      rw [hr] at HRi
      clear hw HXY hw2 hr
      go_wp2_with (go_at_call 25; (with_reducible refine (HWd.out _).mono ?_); rintro e w' ⟨rfl, X6, rfl⟩)
      refine wp_region_seq [(0, true), (1, true), (2, true), (3, true), (4, true), (5, true), (6, true), (7, false), (8, false), (9, true), (10, true)] (by kernel_rfl) (by kernel_rfl) (fun _ _ d _ _ h => by cases d <;> exact h) ?_
      simp only [List.map_cons, List.map_nil, nth]
      repeat (first | ((with_reducible refine wpSeq_look ?_); go_big_quiet_step (fail); (with_reducible refine wpQuiet_nil ?_)) | ((with_reducible refine wpSeq_effF ?_ ?_); (focus rfl); go_simp) | ((with_reducible refine wpSeq_eff ?_ ?_); (focus rfl); (try dsimp only); go_wp2_with (first | (go_at_call 28; (with_reducible refine (HLv.out _ (ex_trans hw4.out (by (try show Ex _ _); repeat (first | (with_reducible exact ex_refl _) | (with_reducible assumption) | (with_reducible refine ex_drewL ?_) | (with_reducible refine ex_appR ?_ _) | (with_reducible refine ex_wx ?_ _) | (with_reducible refine ex_drew ?_) | (with_reducible refine ex_alloc ?_ _))))).mono ?_); rintro e w' ⟨ov2, rfl, h5, X5, rfl⟩; (try simp only [wx_wx, wx_drew] at h5); obtain ⟨la5, lc5, rfl, f1, f2, _, f4⟩ := h5.sl; clear h5; replace f4 := Lib.hid f4) | (go_at_call 44; (with_reducible refine (HRr.out _ _ _ f1 f2 (f4.out.ex (by (try show Ex _ _); repeat (first | (with_reducible exact ex_refl _) | (with_reducible assumption) | (with_reducible refine ex_drewL ?_) | (with_reducible refine ex_appR ?_ _) | (with_reducible refine ex_wx ?_ _) | (with_reducible refine ex_drew ?_) | (with_reducible refine ex_alloc ?_ _))))).mono ?_); rintro e w' ⟨rfl, X8, rfl⟩)); refine mixQ_mk (by (try show Ex _ _); repeat (first | (with_reducible exact ex_refl _) | (with_reducible assumption) | (with_reducible refine ex_drewL ?_) | (with_reducible refine ex_appR ?_ _) | (with_reducible refine ex_wx ?_ _) | (with_reducible refine ex_drew ?_) | (with_reducible refine ex_alloc ?_ _))) ?_))
      refine wpSeq_nil ?_
      go_wp2_with (go_at_call 45; (with_reducible refine (HRi.out _ (by (try show Ex _ _); repeat (first | (with_reducible exact ex_refl _) | (with_reducible assumption) | (with_reducible refine ex_drewL ?_) | (with_reducible refine ex_appR ?_ _) | (with_reducible refine ex_wx ?_ _) | (with_reducible refine ex_drew ?_) | (with_reducible refine ex_alloc ?_ _)))).mono ?_); rintro e w' ⟨rfl, X7, rfl⟩)
      go_ret
      exact post_mk rfl (ex_trans hw4.out (by (try show Ex _ _); repeat (first | (with_reducible exact ex_refl _) | (with_reducible assumption) | (with_reducible refine ex_drewL ?_) | (with_reducible refine ex_appR ?_ _) | (with_reducible refine ex_wx ?_ _) | (with_reducible refine ex_drew ?_) | (with_reducible refine ex_alloc ?_ _))))
    · rw [hw] at HWd
      rw [hr] at HRi
      have HCw : Hid (∀ w', Ex W4 w' → Calls Tryd.prog 46 #[I N, .slice pa qs.length pc] w' (Post w' (.agg (rowB 32 (dF (crownC (sumW N) qs)))))) := Lib.hid fun w' k => refCrown_any N (by omega) qs pa pc w' hr f1p f2p (HP4.out.ex k)
      have hE2 := eqF_same (dF (crownC (sumW N) qs)) 32
      generalize crownC (sumW N) qs = cr at HCw hE2 d7
      have HM1 : Hid (∀ w' ao, Ex W4 w' → Calls Tryd.prog 42 #[I N, .slice ao 1025 1025] w' (Post w' (.tuple #[.agg (rowB 32 fun _ => 0), I 3]))) := Lib.hid fun w' ao k => by
        have := wRoot_any G N (List.replicate 1025 []) ao 1025 w' (by simp) (by decide) (fun h => absurd h (by simp)) (ex_trans hw4.out k)
        unfold rootV at this
        rw [hw, if_neg (by decide), if_pos (by simp), List.length_replicate] at this
        exact this
      have HM2 : Hid (∀ w' ao, Ex W4 w' → Calls Tryd.prog 31 #[I N, .slice ao 1025 1025, .agg #[I 0, .slice none 0 0, .slice none 0 0]] w' (Post w' (.tuple #[.agg #[.slice none 0 0, .slice none 0 0], .bool false]))) := Lib.hid fun w' ao k => by
        have := include_any G N (b := []) (by simp) (bv := .slice none 0 0) (List.replicate 1025 []) ao 1025 0 [] none 0 w' (by simp) (by decide) (fun h => absurd h (by simp)) rfl (fun h => absurd h (by simp)) (by simp) (by decide) ⟨Or.inl rfl⟩ (ex_trans hw4.out k)
        have hn : inclT N (List.replicate 1025 []) 0 [] [] = none := by
          unfold inclT inclC
          rw [if_neg (by rintro ⟨h, _⟩; simp at h)]
          rfl
        rw [hn, List.length_replicate] at this
        refine this.mono fun e w2 ⟨sa, sb, h1, ⟨X, h2⟩, h3, h4⟩ => ?_
        subst h3 h4
        exact ⟨h1, X, h2⟩
      have HM3 : Hid (∀ w' ao, Calls Tryd.prog 39 #[I N, .slice ao 1025 1025, .agg #[.int .i64 1, .int .u8 0, .int .u8 0, .int .u8 0, .int .u8 0, .int .u8 0, .int .u8 0, .int .u8 0, .int .u8 0, .int .u8 0, .int .u8 0, .int .u8 0, .int .u8 0, .int .u8 0, .int .u8 0, .int .u8 0, .int .u8 0, .int .u8 0, .int .u8 0, .int .u8 0, .int .u8 0, .int .u8 0, .int .u8 0, .int .u8 0, .int .u8 0, .int .u8 0, .int .u8 0, .int .u8 0, .int .u8 0, .int .u8 0, .int .u8 0, .int .u8 0, .int .u8 0, .slice none 0 0]] w' (Post w' (.tuple #[.agg #[.slice none 0 0, .slice none 0 0], .bool false]))) := Lib.hid fun w' ao => by
        have := extend_grow1 N 1025 1025 ao w' (by omega) (by omega) (by decide)
        unfold grow1 at this
        exact this
      clear hw HXY hw2 hr
      go_wp2_with (go_at_call 25; (with_reducible refine (HWd.out _).mono ?_); rintro e w' ⟨rfl, X6, rfl⟩)
      refine wp_region_seq [(0, true), (1, true), (2, true), (3, true), (4, true), (5, true), (6, true), (7, false), (8, false), (9, true), (10, true)] (by kernel_rfl) (by kernel_rfl) (fun _ _ d _ _ h => by cases d <;> exact h) ?_
      simp only [List.map_cons, List.map_nil, nth]
      repeat (first | ((with_reducible refine wpSeq_look ?_); go_big_quiet_step (fail); (with_reducible refine wpQuiet_nil ?_)) | ((with_reducible refine wpSeq_effF ?_ ?_); (focus rfl); go_simp) | ((with_reducible refine wpSeq_eff ?_ ?_); (focus rfl); (try dsimp only); go_wp2_with (first | (go_at_call 28; (with_reducible refine (HLv.out _ (ex_trans hw4.out (by (try show Ex _ _); repeat (first | (with_reducible exact ex_refl _) | (with_reducible assumption) | (with_reducible refine ex_drewL ?_) | (with_reducible refine ex_appR ?_ _) | (with_reducible refine ex_wx ?_ _) | (with_reducible refine ex_drew ?_) | (with_reducible refine ex_alloc ?_ _))))).mono ?_); rintro e w' ⟨ov2, rfl, h5, X5, rfl⟩; (try simp only [wx_wx, wx_drew] at h5); obtain ⟨la5, lc5, rfl, f1, f2, _, f4⟩ := h5.sl; clear h5; replace f4 := Lib.hid f4) | (go_at_call 44; (with_reducible refine (HRr.out _ _ _ f1 f2 (f4.out.ex (by (try show Ex _ _); repeat (first | (with_reducible exact ex_refl _) | (with_reducible assumption) | (with_reducible refine ex_drewL ?_) | (with_reducible refine ex_appR ?_ _) | (with_reducible refine ex_wx ?_ _) | (with_reducible refine ex_drew ?_) | (with_reducible refine ex_alloc ?_ _))))).mono ?_); rintro e w' ⟨rfl, X8, rfl⟩)); refine mixQ_mk (by (try show Ex _ _); repeat (first | (with_reducible exact ex_refl _) | (with_reducible assumption) | (with_reducible refine ex_drewL ?_) | (with_reducible refine ex_appR ?_ _) | (with_reducible refine ex_wx ?_ _) | (with_reducible refine ex_drew ?_) | (with_reducible refine ex_alloc ?_ _))) ?_))
      refine wpSeq_nil ?_
      go_wp2_with (first | (go_at_call 45; (with_reducible refine (HRi.out _ (by (try show Ex _ _); repeat (first | (with_reducible exact ex_refl _) | (with_reducible assumption) | (with_reducible refine ex_drewL ?_) | (with_reducible refine ex_appR ?_ _) | (with_reducible refine ex_wx ?_ _) | (with_reducible refine ex_drew ?_) | (with_reducible refine ex_alloc ?_ _)))).mono ?_); rintro e w' ⟨rfl, X7, rfl⟩) | (go_at_call 42; (with_reducible refine (HM1.out _ _ (by (try show Ex _ _); repeat (first | (with_reducible exact ex_refl _) | (with_reducible assumption) | (with_reducible refine ex_drewL ?_) | (with_reducible refine ex_appR ?_ _) | (with_reducible refine ex_wx ?_ _) | (with_reducible refine ex_drew ?_) | (with_reducible refine ex_alloc ?_ _)))).mono ?_); rintro e w' ⟨rfl, X21, rfl⟩) | (go_at_call 31; (with_reducible refine (HM2.out _ _ (by (try show Ex _ _); repeat (first | (with_reducible exact ex_refl _) | (with_reducible assumption) | (with_reducible refine ex_drewL ?_) | (with_reducible refine ex_appR ?_ _) | (with_reducible refine ex_wx ?_ _) | (with_reducible refine ex_drew ?_) | (with_reducible refine ex_alloc ?_ _)))).mono ?_); rintro e w' ⟨rfl, X22, rfl⟩) | (go_at_call 39; (with_reducible refine (HM3.out _ _).mono ?_); rintro e w' ⟨rfl, X23, rfl⟩))
      refine wp_region_seq [(0, true), (1, true), (2, true), (3, true), (4, true), (5, true), (6, true), (7, false), (8, true), (9, true), (10, true), (11, true), (12, true), (13, true), (14, true), (15, true), (16, true), (17, true), (18, true), (19, true), (20, true), (21, true), (22, true)] (by kernel_rfl) (by kernel_rfl) (fun _ _ d _ _ h => by cases d <;> exact h) ?_
      simp only [List.map_cons, List.map_nil, nth]
      repeat (first | ((with_reducible refine wpSeq_look ?_); go_big_quiet_step (fail); (with_reducible refine wpQuiet_nil ?_)) | ((with_reducible refine wpSeq_effF ?_ ?_); (focus rfl); go_simp) | ((with_reducible refine wpSeq_eff ?_ ?_); (focus rfl); (try dsimp only); go_wp2_with ((go_at_call 46; (with_reducible refine (HCw.out _ (by (try show Ex _ _); repeat (first | (with_reducible exact ex_refl _) | (with_reducible assumption) | (with_reducible refine ex_drewL ?_) | (with_reducible refine ex_appR ?_ _) | (with_reducible refine ex_wx ?_ _) | (with_reducible refine ex_drew ?_) | (with_reducible refine ex_alloc ?_ _)))).mono ?_); rintro e w' ⟨rfl, X24, rfl⟩)); refine mixQ_mk (by (try show Ex _ _); repeat (first | (with_reducible exact ex_refl _) | (with_reducible assumption) | (with_reducible refine ex_drewL ?_) | (with_reducible refine ex_appR ?_ _) | (with_reducible refine ex_wx ?_ _) | (with_reducible refine ex_drew ?_) | (with_reducible refine ex_alloc ?_ _))) ?_))
      refine wpSeq_nil ?_
      go_wp2
      go_ret
      exact post_mk rfl (ex_trans hw4.out (by (try show Ex _ _); repeat (first | (with_reducible exact ex_refl _) | (with_reducible assumption) | (with_reducible refine ex_drewL ?_) | (with_reducible refine ex_appR ?_ _) | (with_reducible refine ex_wx ?_ _) | (with_reducible refine ex_drew ?_) | (with_reducible refine ex_alloc ?_ _))))
end Go.Proofs.YtcdocklbpfdmeaaDoor
