import Derived.Test.YtcdocklbpfdmeaaDoorMSpH

/- Collide: may a span be one for a range? -/
set_option linter.unusedSimpArgs false
set_option linter.unusedVariables false
set_option linter.unnecessarySimpa false
set_option maxRecDepth 20000
namespace Go.Proofs.YtcdocklbpfdmeaaDoor
open Go.RowKit
theorem info_rangeI : (Tryd.prog.info? 24).map (·.size) = some 3 := by kernel_rfl
@[go_sem] theorem load_rangeI (b o : Nat) (w : World) : loadRun Tryd.prog 24 (.pointer (some ⟨b, o, none⟩)) w = match cellsN w b o 3 with | some cs => .ok (.value (.agg cs)) w | none => loadRaw Tryd.prog 24 (.pointer (some ⟨b, o, none⟩)) w := loadRun_row Tryd.underlying24 rfl info_rangeI b o w
@[go_sem] theorem store_rangeI (b o : Nat) (vs : Array Value) (w : World) : storeRun Tryd.prog 24 (.pointer (some ⟨b, o, none⟩)) (.agg vs) w = if (vs.size == 3 && (cellsN w b o 3).isSome && !frozenN w b o 3 && oneCells vs) = true then .ok .skip (w.setCells b o vs.toList) else storeRaw Tryd.prog 24 (.pointer (some ⟨b, o, none⟩)) (.agg vs) w := storeRun_row info_rangeI b o vs w
theorem info_spanI : (Tryd.prog.info? 27).map (·.size) = some 4 := by kernel_rfl
@[go_sem] theorem load_spanI (b o : Nat) (w : World) : loadRun Tryd.prog 27 (.pointer (some ⟨b, o, none⟩)) w = match cellsN w b o 4 with | some cs => .ok (.value (.agg cs)) w | none => loadRaw Tryd.prog 27 (.pointer (some ⟨b, o, none⟩)) w := loadRun_row Tryd.underlying27 rfl info_spanI b o w
@[go_sem] theorem store_spanI (b o : Nat) (vs : Array Value) (w : World) : storeRun Tryd.prog 27 (.pointer (some ⟨b, o, none⟩)) (.agg vs) w = if (vs.size == 4 && (cellsN w b o 4).isSome && !frozenN w b o 4 && oneCells vs) = true then .ok .skip (w.setCells b o vs.toList) else storeRaw Tryd.prog 27 (.pointer (some ⟨b, o, none⟩)) (.agg vs) w := storeRun_row info_spanI b o vs w
theorem form_split (r : Rg) (T F : Int) (ps : List Pr) : formC r T F ps = (decide (0 ≤ T ∧ T ≤ 200 ∧ 0 ≤ F ∧ F ≤ T ∧ (ps.length : Int) ≤ T - F ∧ (0 < ps.length ∨ T = 0)) && (rightP ps && endC r T F ps)) := by
  unfold formC
  rw [Bool.eq_iff_iff]
  simp only [Bool.and_eq_true, Bool.or_eq_true, decide_eq_true_eq]
  unfold okS
  constructor
  · rintro ⟨⟨⟨h1, h2, h3, h4, h5, h6⟩, h7⟩, h8⟩
    exact ⟨⟨h1, h2, h3, by omega, by omega, h7⟩, h6, h8⟩
  · rintro ⟨⟨h1, h2, h3, h4, h5, h7⟩, h6, h8⟩
    exact ⟨⟨⟨h1, h2, h3, by omega, by omega, h6⟩, h7⟩, h8⟩
set_option maxHeartbeats 2000000 in
theorem formed_any (r : Rg) (T F : Int) (ps : List Pr) (pa : Option Addr) (pc : Nat) (qa : Option Addr) (qn qc : Nat) (w : World) (hpc : ps.length ≤ pc) (hpm : pc ≤ maxLen) (hPs : SlP w pa ps) :
    Calls Tryd.prog 96 #[.agg (RC r), .agg #[I T, I F, .slice pa ps.length pc, .slice qa qn qc]] w (Post w (.bool (formC r T F ps))) := by
  rw [form_split]
  obtain ⟨lo, hi, op⟩ := r
  unfold RC
  have hpm' := hpm
  unfold maxLen at hpm
  by_cases hok : 0 ≤ T ∧ T ≤ 200 ∧ 0 ≤ F ∧ F ≤ T ∧ (ps.length : Int) ≤ T - F ∧ (0 < ps.length ∨ T = 0)
  · rw [decide_eq_true hok, Bool.true_and]
    obtain ⟨k1, k2, k3, k4, k5, k6⟩ := hok
    obtain ⟨Tn, rfl⟩ : ∃ Tn : Nat, T = Tn := ⟨T.toNat, by omega⟩
    obtain ⟨Fn, rfl⟩ : ∃ Fn : Nat, F = Fn := ⟨F.toNat, by omega⟩
    have HK := Lib.hid fun w' (k : Ex w w') => Check_any ps pa pc w' hpc hpm' (hPs.ex k)
    unfold chkP at HK
    have t1 : decide ((0 : Int) ≤ Tn) = true := decide_eq_true k1
    have t2 : decide ((Tn : Int) ≤ 200) = true := decide_eq_true k2
    have t2' : decide (Tn ≤ 200) = true := decide_eq_true (by omega)
    have t3 : decide ((0 : Int) ≤ Fn) = true := decide_eq_true k3
    have t4 : decide ((Fn : Int) ≤ Tn) = true := decide_eq_true k4
    have t4' : decide (Fn ≤ Tn) = true := decide_eq_true (by omega)
    have t5 : decide ((ps.length : Int) ≤ (Tn : Int) - Fn) = true := decide_eq_true k5
    by_cases h0 : ps.length = 0
    · have hT : Tn = 0 := by omega
      have hF : Fn = 0 := by omega
      subst hT hF
      have hps := List.eq_nil_of_length_eq_zero h0
      subst hps
      have e0 : (rightP ([] : List Pr) && endC ⟨lo, hi, op⟩ ((0 : Nat) : Int) ((0 : Nat) : Int) []) = true := by simp [rightP, endC]
      rw [e0]
      have er : rightP ([] : List Pr) = true := rfl
      rw [er] at HK
      simp only [if_true] at HK
      clear t1 t2 t2' t3 t4 t4' t5 k1 k2 k3 k4 k5 k6 e0 er hPs
      rw [List.length_nil] at *
      go_enter Tryd.func96, Tryd.ntmps96
      go_wp2_with (go_at_call 62; (with_reducible refine (HK.out _ (by (try show Ex _ _); with_reducible repeat (first | exact ex_refl _ | assumption | refine ex_drewL ?_ | refine ex_appR ?_ _ | refine ex_wx ?_ _ | refine ex_drew ?_ | refine ex_alloc ?_ _))).mono ?_); rintro e w2 ⟨rfl, X, rfl⟩)
      go_ret
      exact post_mk rfl (by (try show Ex _ _); with_reducible repeat (first | exact ex_refl _ | assumption | refine ex_drewL ?_ | refine ex_appR ?_ _ | refine ex_wx ?_ _ | refine ex_drew ?_ | refine ex_alloc ?_ _))
    · have t6 : decide ((0 : Int) < ps.length) = true := decide_eq_true (by omega)
      have t6' : decide (0 < ps.length) = true := decide_eq_true (by omega)
      have t7 : ((ps.length : Int) == 0) = false := beq_eq_false_iff_ne.2 (by omega)
      obtain ⟨g, off, rfl, hg, _, r1, _⟩ := hPs.row (i := 0) (by omega)
      obtain ⟨g2, off2, he2, _, _, r2, _⟩ := hPs.row (i := ps.length - 1) (by omega)
      cases he2
      rw [Nat.zero_mul, Nat.add_zero] at r1
      have hn1 : ((ps.length : Int) - 1) = ((ps.length - 1 : Nat) : Int) := by omega
      have hE : endC ⟨lo, hi, op⟩ Tn Fn ps = ((decide ((Fn : Int) = 0) || ltS (prAt ps 0).1 lo) && (decide ((Fn : Int) + ps.length = Tn) || (!ltS (prAt ps (ps.length - 1)).1 lo && !inP ⟨lo, hi, op⟩ (prAt ps (ps.length - 1)).1))) := by
        unfold endC keyAt; rw [decide_eq_false h0, Bool.false_or]
      rw [hE]
      have HI := Lib.hid fun w' => in_any ⟨lo, hi, op⟩ (prAt ps (ps.length - 1)).1 w'
      unfold RC at HI
      generalize (prAt ps 0).1 = key0 at r1 ⊢
      generalize (prAt ps (ps.length - 1)).1 = key1 at r2 HI ⊢
      obtain ⟨b1, e1⟩ : ∃ b, Op.bytesLess key0.toList lo.toList = b := ⟨_, rfl⟩
      obtain ⟨b2, e2⟩ : ∃ b, Op.bytesLess key1.toList lo.toList = b := ⟨_, rfl⟩
      unfold ltS
      rw [e1, e2]
      generalize inP ⟨lo, hi, op⟩ key1 = b3 at HI ⊢
      have e4 : ((Fn : Int) == 0) = decide ((Fn : Int) = 0) := rfl
      have e5 : ((Fn : Int) + ps.length == Tn) = decide ((Fn : Int) + ps.length = Tn) := rfl
      generalize decide ((Fn : Int) = 0) = b4 at e4 ⊢
      generalize decide ((Fn : Int) + ps.length = Tn) = b5 at e5 ⊢
      have hnn : (ps.length : Int) ≤ 200 := by omega
      generalize hm : ps.length - 1 = m at *
      generalize ps.length = pn at *
      have hmn : (m : Int) < pn := by omega
      have hmc : (m : Int) < pc := by omega
      have h0n : (0 : Int) < pn := by omega
      cases hr : rightP ps with
      | false =>
        rw [hr] at HK
        simp only [Bool.false_eq_true, if_false] at HK
        rw [Bool.false_and]
        clear hE hPs e1 e2 r1 r2
        go_enter Tryd.func96, Tryd.ntmps96
        go_wp2_with (go_at_call 62; (with_reducible refine (HK.out _ (by (try show Ex _ _); with_reducible repeat (first | exact ex_refl _ | assumption | refine ex_drewL ?_ | refine ex_appR ?_ _ | refine ex_wx ?_ _ | refine ex_drew ?_ | refine ex_alloc ?_ _))).mono ?_); rintro e w2 ⟨rfl, X, rfl⟩)
        go_ret
        exact post_mk rfl (by (try show Ex _ _); with_reducible repeat (first | exact ex_refl _ | assumption | refine ex_drewL ?_ | refine ex_appR ?_ _ | refine ex_wx ?_ _ | refine ex_drew ?_ | refine ex_alloc ?_ _))
      | true =>
        rw [hr] at HK
        simp only [if_true] at HK
        rw [Bool.true_and]
        clear hE hPs hr
        cases b4 <;> cases b1 <;> cases b5 <;> cases b2
        all_goals
          go_enter Tryd.func96, Tryd.ntmps96
          go_wp2_with (go_at_call 62; (with_reducible refine (HK.out _ (by (try show Ex _ _); with_reducible repeat (first | exact ex_refl _ | assumption | refine ex_drewL ?_ | refine ex_appR ?_ _ | refine ex_wx ?_ _ | refine ex_drew ?_ | refine ex_alloc ?_ _))).mono ?_); rintro e w2 ⟨rfl, X, rfl⟩)
          refine wp_region_seq [(0, true), (1, true), (2, true), (3, true), (4, true), (5, true), (6, true), (7, true), (8, true), (9, true), (10, true), (11, true), (12, true), (13, true)] (by kernel_rfl) (by kernel_rfl) (fun _ _ d _ _ h => by cases d <;> exact h) ?_
          simp only [List.map_cons, List.map_nil, nth]
          repeat (first | ((with_reducible refine wpSeq_look ?_); go_big_quiet_step (fail); (with_reducible refine wpQuiet_nil ?_)) | ((with_reducible refine wpSeq_effF ?_ ?_); (focus rfl); go_simp) | ((with_reducible refine wpSeq_eff ?_ ?_); (focus rfl); (try dsimp only); go_wp2_with (fail); refine mixQ_mk (by (try show Ex _ _); with_reducible repeat (first | exact ex_refl _ | assumption | refine ex_drewL ?_ | refine ex_appR ?_ _ | refine ex_wx ?_ _ | refine ex_drew ?_ | refine ex_alloc ?_ _)) ?_))
          refine wpSeq_nil ?_
          go_wp2_with (go_at_call 17; (with_reducible refine (HI.out _).mono ?_); rintro e w2 ⟨rfl, X2, rfl⟩)
          go_ret
          exact post_mk (by simp) (by (try show Ex _ _); with_reducible repeat (first | exact ex_refl _ | assumption | refine ex_drewL ?_ | refine ex_appR ?_ _ | refine ex_wx ?_ _ | refine ex_drew ?_ | refine ex_alloc ?_ _))
  · rw [decide_eq_false hok, Bool.false_and]
    generalize ps.length = pn at *
    clear hPs
    by_cases h1 : 0 ≤ T
    · have t1 : decide (0 ≤ T) = true := decide_eq_true h1
      by_cases h2 : T ≤ 200
      · have t2 : decide (T ≤ 200) = true := decide_eq_true h2
        by_cases h3 : 0 ≤ F
        · have t3 : decide (0 ≤ F) = true := decide_eq_true h3
          by_cases h4 : F ≤ T
          · have t4 : decide (F ≤ T) = true := decide_eq_true h4
            by_cases h5 : (pn : Int) ≤ T - F
            · have t5 : decide ((pn : Int) ≤ T - F) = true := decide_eq_true h5
              have h6 : pn = 0 := by omega
              have t6 : decide ((0 : Int) < pn) = false := decide_eq_false (by omega)
              have t6' : decide (0 < pn) = false := decide_eq_false (by omega)
              have t7 : (T == 0) = false := beq_eq_false_iff_ne.2 (by omega)
              subst h6
              clear hok
              go_enter Tryd.func96, Tryd.ntmps96
              go_wp2
              go_ret
              exact post_mk rfl (by (try show Ex _ _); with_reducible repeat (first | exact ex_refl _ | assumption | refine ex_drewL ?_ | refine ex_appR ?_ _ | refine ex_wx ?_ _ | refine ex_drew ?_ | refine ex_alloc ?_ _))
            · have t5 : decide ((pn : Int) ≤ T - F) = false := decide_eq_false h5
              clear hok
              go_enter Tryd.func96, Tryd.ntmps96
              go_wp2
              go_ret
              exact post_mk rfl (by (try show Ex _ _); with_reducible repeat (first | exact ex_refl _ | assumption | refine ex_drewL ?_ | refine ex_appR ?_ _ | refine ex_wx ?_ _ | refine ex_drew ?_ | refine ex_alloc ?_ _))
          · have t4 : decide (F ≤ T) = false := decide_eq_false h4
            clear hok
            go_enter Tryd.func96, Tryd.ntmps96
            go_wp2
            go_ret
            exact post_mk rfl (by (try show Ex _ _); with_reducible repeat (first | exact ex_refl _ | assumption | refine ex_drewL ?_ | refine ex_appR ?_ _ | refine ex_wx ?_ _ | refine ex_drew ?_ | refine ex_alloc ?_ _))
        · have t3 : decide (0 ≤ F) = false := decide_eq_false h3
          clear hok
          go_enter Tryd.func96, Tryd.ntmps96
          go_wp2
          go_ret
          exact post_mk rfl (by (try show Ex _ _); with_reducible repeat (first | exact ex_refl _ | assumption | refine ex_drewL ?_ | refine ex_appR ?_ _ | refine ex_wx ?_ _ | refine ex_drew ?_ | refine ex_alloc ?_ _))
      · have t2 : decide (T ≤ 200) = false := decide_eq_false h2
        clear hok
        go_enter Tryd.func96, Tryd.ntmps96
        go_wp2
        go_ret
        exact post_mk rfl (by (try show Ex _ _); with_reducible repeat (first | exact ex_refl _ | assumption | refine ex_drewL ?_ | refine ex_appR ?_ _ | refine ex_wx ?_ _ | refine ex_drew ?_ | refine ex_alloc ?_ _))
    · have t1 : decide (0 ≤ T) = false := decide_eq_false h1
      clear hok
      go_enter Tryd.func96, Tryd.ntmps96
      go_wp2
      go_ret
      exact post_mk rfl (by (try show Ex _ _); with_reducible repeat (first | exact ex_refl _ | assumption | refine ex_drewL ?_ | refine ex_appR ?_ _ | refine ex_wx ?_ _ | refine ex_drew ?_ | refine ex_alloc ?_ _))
end Go.Proofs.YtcdocklbpfdmeaaDoor
