import Derived.Test.YtpcfkjeikhehaaaDoorMRdW
import Derived.Test.YtpcfkjeikhehaaaDoorMFrO
import Derived.Test.YtpcfkjeikhehaaaDoorMTwo

/- The frame's reader, walked. -/
set_option linter.unusedSimpArgs false
set_option linter.unusedVariables false
set_option maxRecDepth 20000
namespace Go.Proofs.YtpcfkjeikhehaaaDoor
open Go.RowKit
theorem SlT.from {w : World} {ad : Addr} {n c : Nat} {l : List UInt8} (h : SlT w (.slice (some ad) n c) l) (i : Nat) (hi : i ≤ l.length) : SlT w (.slice (some (ad.add i)) (n - i) (c - i)) (l.drop i) := by
  have hn : n = l.length := by
    obtain ⟨a2, c2, hv, _⟩ := h.out
    simp at hv; exact hv.2.1
  have := h.cut i (l.length - i) (by omega)
  rw [hn]
  rwa [List.take_of_length_le (by rw [List.length_drop]; omega)] at this
theorem longV_eq (o : Option (Nat × Nat)) : longV o = .tuple #[.int .u64 ((longN o).1 : Nat), I ((longN o).2 : Nat), .bool o.isSome] := by
  cases o with
  | none => rfl
  | some r => obtain ⟨x, n⟩ := r; rfl
theorem number_any {A w : World} {Z p q bm : Nat} {xs : Value × Value × Value} {v : Value} {l : List UInt8} {s : Rs} {m : Ms} (h : RdM A w Z p q bm xs v l s m) :
    Calls Tryd.prog 71 #[PT p] w fun x w' => x = .returned (.int .u64 ((numP l s).1 : Nat)) ∧ RdM A w' Z p q bm xs v l (numP l s).2 m ∧ Mt p q w w' := by
  obtain ⟨_, ⟨p0, p1, p2, pf⟩, hqz, hpz⟩ := h.cells
  obtain ⟨a, c, rfl, k1, k2, k3⟩ := h.form
  have hle := h.le
  have hll := h.ll
  have HA := Lib.hid (fun W (k : Ex w W) => at_any (h.grow k))
  have H := Lib.hid h
  have HSl := Lib.hid (h.sl.ex h.ex)
  have HV := Lib.hid (longV_eq (longL (l.drop s.pl)))
  have HN : Hid (numP l s = ((longN (longL (l.drop s.pl))).1, { pl := if s.er = 0 then s.pl + (longN (longL (l.drop s.pl))).2 else s.pl, er := s.er, bad := s.bad || (longL (l.drop s.pl)).isNone })) := Lib.hid rfl
  have hb := (longN_le (l.drop s.pl)).1
  rw [List.length_drop] at hb
  rw [HN.out]
  clear HN h
  obtain ⟨pl, er, bad⟩ := s
  simp only at *
  have HG := Lib.hid (fun W (hW : RdM A W Z p q bm xs (.slice a l.length c) l ⟨pl, er, bad⟩ m) => goto_any hW (longN (longL (l.drop pl))).2 hb)
  have hbo : ((longL (l.drop pl)).isNone = !(longL (l.drop pl)).isSome) := by cases longL (l.drop pl) <;> rfl
  rw [hbo]
  clear hbo
  generalize (longN (longL (l.drop pl))).1 = x at *
  generalize (longN (longL (l.drop pl))).2 = n at *
  generalize (longL (l.drop pl)).isSome = ok at *
  unfold maxLen at k2
  generalize (if er = 0 then pl + n else pl) = pl2 at *
  go_enter Tryd.func71, Tryd.ntmps71
  go_wp2
  cases a with
  | none =>
    obtain rfl := k3 rfl
    obtain rfl : pl = 0 := by omega
    have HS : Hid (∀ W, Ex w W → SlT W (.slice none 0 0) (l.drop 0)) := Lib.hid (fun W (k : Ex w W) => by rw [List.eq_nil_of_length_eq_zero (l := l) (by omega)]; exact slt_zero (by decide) (fun _ => rfl))
    clear k3 HSl
    cases bad
    ·
      refine wp_region_fork (w) (.look 0 (.look 1 (.look 2 (.look 3 (.look 4 (.look 5 (.look 6 (.look 7 (.eff 8 (.look 9 (.eff 10 (.look 11 (.look 12 (.look 13 (.look 14 (.look 15 (.look 16 (.look 17 .done)))))))))))))))))) (by (try show Ex _ _); repeat (first | (with_reducible exact ex_refl _) | (with_reducible assumption) | (with_reducible refine ex_drewL ?_) | (with_reducible refine ex_appR ?_ _) | (with_reducible refine ex_wx ?_ _) | (with_reducible refine ex_drew ?_) | (with_reducible refine ex_alloc ?_ _))) (by kernel_rfl) (by kernel_rfl) (fun _ _ d _ _ h => by cases d <;> exact h) ?_
      simp only [Fk.ops, nth]
      repeat (first | ((with_reducible refine wpFork_look ?_); go_big_quiet_step (fail); (try (with_reducible refine wpQuiet_nil ?_))) | (with_reducible refine wpFork_eff ?_) | ((with_reducible refine effT_F ?_ ?_); (focus rfl); go_simp) | ((with_reducible refine effT_T ?_ ?_); (focus rfl); (try dsimp only); go_wp2_with (first | (go_at_call 88; (with_reducible refine (HA.out _ (by (try show Ex _ _); repeat (first | (with_reducible exact ex_refl _) | (with_reducible assumption) | (with_reducible refine ex_drewL ?_) | (with_reducible refine ex_appR ?_ _) | (with_reducible refine ex_wx ?_ _) | (with_reducible refine ex_drew ?_) | (with_reducible refine ex_alloc ?_ _)))).mono ?_); rintro e w2 ⟨rfl, rfl⟩) | (go_at_call 13; (with_reducible refine (long_any _ _ _ (HS.out _ (by (try show Ex _ _); repeat (first | (with_reducible exact ex_refl _) | (with_reducible assumption) | (with_reducible refine ex_drewL ?_) | (with_reducible refine ex_appR ?_ _) | (with_reducible refine ex_wx ?_ _) | (with_reducible refine ex_drew ?_) | (with_reducible refine ex_alloc ?_ _))))).mono ?_); rw [HV.out]; rintro e w2 ⟨rfl, X2, rfl⟩)); refine mixQ_mk (by (try show Ex _ _); repeat (first | (with_reducible exact ex_refl _) | (with_reducible assumption) | (with_reducible refine ex_drewL ?_) | (with_reducible refine ex_appR ?_ _) | (with_reducible refine ex_wx ?_ _) | (with_reducible refine ex_drew ?_) | (with_reducible refine ex_alloc ?_ _))) ?_))
      all_goals (with_reducible refine wpFork_nil ?_)
      all_goals
        go_wp2_with (go_at_call 89; (with_reducible refine (HG.out _ (H.out.grow (by (try show Ex _ _); repeat (first | (with_reducible exact ex_refl _) | (with_reducible assumption) | (with_reducible refine ex_drewL ?_) | (with_reducible refine ex_appR ?_ _) | (with_reducible refine ex_wx ?_ _) | (with_reducible refine ex_drew ?_) | (with_reducible refine ex_alloc ?_ _))))).mono ?_); rintro e w3 ⟨rfl, H2, zz2⟩; obtain ⟨_, ⟨r0, r1, r2, rf⟩, rqz, rpz⟩ := H2.cells; simp only at r2; replace H2 := Lib.hid H2; have zz3 := (Mt.ex (w := w) (by (try show Ex _ _); repeat (first | (with_reducible exact ex_refl _) | (with_reducible assumption) | (with_reducible refine ex_drewL ?_) | (with_reducible refine ex_appR ?_ _) | (with_reducible refine ex_wx ?_ _) | (with_reducible refine ex_drew ?_) | (with_reducible refine ex_alloc ?_ _)))).trans zz2; clear zz2)
        go_ret
        exact ⟨rfl, H2.out.setBad _, zz3.setP _ _⟩
    ·
      refine wp_region_fork (w) (.look 0 (.look 1 (.look 2 (.look 3 (.look 4 (.look 5 (.look 6 (.look 7 (.eff 8 (.look 9 (.eff 10 (.look 11 (.look 12 (.look 13 (.look 14 (.look 15 (.look 16 (.look 17 .done)))))))))))))))))) (by (try show Ex _ _); repeat (first | (with_reducible exact ex_refl _) | (with_reducible assumption) | (with_reducible refine ex_drewL ?_) | (with_reducible refine ex_appR ?_ _) | (with_reducible refine ex_wx ?_ _) | (with_reducible refine ex_drew ?_) | (with_reducible refine ex_alloc ?_ _))) (by kernel_rfl) (by kernel_rfl) (fun _ _ d _ _ h => by cases d <;> exact h) ?_
      simp only [Fk.ops, nth]
      repeat (first | ((with_reducible refine wpFork_look ?_); go_big_quiet_step (fail); (try (with_reducible refine wpQuiet_nil ?_))) | (with_reducible refine wpFork_eff ?_) | ((with_reducible refine effT_F ?_ ?_); (focus rfl); go_simp) | ((with_reducible refine effT_T ?_ ?_); (focus rfl); (try dsimp only); go_wp2_with (first | (go_at_call 88; (with_reducible refine (HA.out _ (by (try show Ex _ _); repeat (first | (with_reducible exact ex_refl _) | (with_reducible assumption) | (with_reducible refine ex_drewL ?_) | (with_reducible refine ex_appR ?_ _) | (with_reducible refine ex_wx ?_ _) | (with_reducible refine ex_drew ?_) | (with_reducible refine ex_alloc ?_ _)))).mono ?_); rintro e w2 ⟨rfl, rfl⟩) | (go_at_call 13; (with_reducible refine (long_any _ _ _ (HS.out _ (by (try show Ex _ _); repeat (first | (with_reducible exact ex_refl _) | (with_reducible assumption) | (with_reducible refine ex_drewL ?_) | (with_reducible refine ex_appR ?_ _) | (with_reducible refine ex_wx ?_ _) | (with_reducible refine ex_drew ?_) | (with_reducible refine ex_alloc ?_ _))))).mono ?_); rw [HV.out]; rintro e w2 ⟨rfl, X2, rfl⟩)); refine mixQ_mk (by (try show Ex _ _); repeat (first | (with_reducible exact ex_refl _) | (with_reducible assumption) | (with_reducible refine ex_drewL ?_) | (with_reducible refine ex_appR ?_ _) | (with_reducible refine ex_wx ?_ _) | (with_reducible refine ex_drew ?_) | (with_reducible refine ex_alloc ?_ _))) ?_))
      all_goals (with_reducible refine wpFork_nil ?_)
      all_goals
        go_wp2_with (go_at_call 89; (with_reducible refine (HG.out _ (H.out.grow (by (try show Ex _ _); repeat (first | (with_reducible exact ex_refl _) | (with_reducible assumption) | (with_reducible refine ex_drewL ?_) | (with_reducible refine ex_appR ?_ _) | (with_reducible refine ex_wx ?_ _) | (with_reducible refine ex_drew ?_) | (with_reducible refine ex_alloc ?_ _))))).mono ?_); rintro e w3 ⟨rfl, H2, zz2⟩; obtain ⟨_, ⟨r0, r1, r2, rf⟩, rqz, rpz⟩ := H2.cells; simp only at r2; replace H2 := Lib.hid H2; have zz3 := (Mt.ex (w := w) (by (try show Ex _ _); repeat (first | (with_reducible exact ex_refl _) | (with_reducible assumption) | (with_reducible refine ex_drewL ?_) | (with_reducible refine ex_appR ?_ _) | (with_reducible refine ex_wx ?_ _) | (with_reducible refine ex_drew ?_) | (with_reducible refine ex_alloc ?_ _)))).trans zz2; clear zz2)
        go_ret
        exact ⟨rfl, H2.out.setBad _, zz3.setP _ _⟩
  | some ad =>
    by_cases hc : c = pl
    · subst hc
      obtain rfl : c = l.length := by omega
      have HS : Hid (∀ W, Ex w W → SlT W (.slice (some ad) 0 0) (l.drop l.length)) := Lib.hid (fun W (k : Ex w W) => by rw [List.drop_length]; exact slt_zero (by decide) (fun h => by cases h))
      clear k3 HSl
      cases bad
      ·
        refine wp_region_fork (w) (.look 0 (.look 1 (.look 2 (.look 3 (.look 4 (.look 5 (.look 6 (.look 7 (.eff 8 (.look 9 (.eff 10 (.look 11 (.look 12 (.look 13 (.look 14 (.look 15 (.look 16 (.look 17 .done)))))))))))))))))) (by (try show Ex _ _); repeat (first | (with_reducible exact ex_refl _) | (with_reducible assumption) | (with_reducible refine ex_drewL ?_) | (with_reducible refine ex_appR ?_ _) | (with_reducible refine ex_wx ?_ _) | (with_reducible refine ex_drew ?_) | (with_reducible refine ex_alloc ?_ _))) (by kernel_rfl) (by kernel_rfl) (fun _ _ d _ _ h => by cases d <;> exact h) ?_
        simp only [Fk.ops, nth]
        repeat (first | ((with_reducible refine wpFork_look ?_); go_big_quiet_step (fail); (try (with_reducible refine wpQuiet_nil ?_))) | (with_reducible refine wpFork_eff ?_) | ((with_reducible refine effT_F ?_ ?_); (focus rfl); go_simp) | ((with_reducible refine effT_T ?_ ?_); (focus rfl); (try dsimp only); go_wp2_with (first | (go_at_call 88; (with_reducible refine (HA.out _ (by (try show Ex _ _); repeat (first | (with_reducible exact ex_refl _) | (with_reducible assumption) | (with_reducible refine ex_drewL ?_) | (with_reducible refine ex_appR ?_ _) | (with_reducible refine ex_wx ?_ _) | (with_reducible refine ex_drew ?_) | (with_reducible refine ex_alloc ?_ _)))).mono ?_); rintro e w2 ⟨rfl, rfl⟩) | (go_at_call 13; (with_reducible refine (long_any _ _ _ (HS.out _ (by (try show Ex _ _); repeat (first | (with_reducible exact ex_refl _) | (with_reducible assumption) | (with_reducible refine ex_drewL ?_) | (with_reducible refine ex_appR ?_ _) | (with_reducible refine ex_wx ?_ _) | (with_reducible refine ex_drew ?_) | (with_reducible refine ex_alloc ?_ _))))).mono ?_); rw [HV.out]; rintro e w2 ⟨rfl, X2, rfl⟩)); refine mixQ_mk (by (try show Ex _ _); repeat (first | (with_reducible exact ex_refl _) | (with_reducible assumption) | (with_reducible refine ex_drewL ?_) | (with_reducible refine ex_appR ?_ _) | (with_reducible refine ex_wx ?_ _) | (with_reducible refine ex_drew ?_) | (with_reducible refine ex_alloc ?_ _))) ?_))
        all_goals (with_reducible refine wpFork_nil ?_)
        all_goals
          go_wp2_with (go_at_call 89; (with_reducible refine (HG.out _ (H.out.grow (by (try show Ex _ _); repeat (first | (with_reducible exact ex_refl _) | (with_reducible assumption) | (with_reducible refine ex_drewL ?_) | (with_reducible refine ex_appR ?_ _) | (with_reducible refine ex_wx ?_ _) | (with_reducible refine ex_drew ?_) | (with_reducible refine ex_alloc ?_ _))))).mono ?_); rintro e w3 ⟨rfl, H2, zz2⟩; obtain ⟨_, ⟨r0, r1, r2, rf⟩, rqz, rpz⟩ := H2.cells; simp only at r2; replace H2 := Lib.hid H2; have zz3 := (Mt.ex (w := w) (by (try show Ex _ _); repeat (first | (with_reducible exact ex_refl _) | (with_reducible assumption) | (with_reducible refine ex_drewL ?_) | (with_reducible refine ex_appR ?_ _) | (with_reducible refine ex_wx ?_ _) | (with_reducible refine ex_drew ?_) | (with_reducible refine ex_alloc ?_ _)))).trans zz2; clear zz2)
          go_ret
          exact ⟨rfl, H2.out.setBad _, zz3.setP _ _⟩
      ·
        refine wp_region_fork (w) (.look 0 (.look 1 (.look 2 (.look 3 (.look 4 (.look 5 (.look 6 (.look 7 (.eff 8 (.look 9 (.eff 10 (.look 11 (.look 12 (.look 13 (.look 14 (.look 15 (.look 16 (.look 17 .done)))))))))))))))))) (by (try show Ex _ _); repeat (first | (with_reducible exact ex_refl _) | (with_reducible assumption) | (with_reducible refine ex_drewL ?_) | (with_reducible refine ex_appR ?_ _) | (with_reducible refine ex_wx ?_ _) | (with_reducible refine ex_drew ?_) | (with_reducible refine ex_alloc ?_ _))) (by kernel_rfl) (by kernel_rfl) (fun _ _ d _ _ h => by cases d <;> exact h) ?_
        simp only [Fk.ops, nth]
        repeat (first | ((with_reducible refine wpFork_look ?_); go_big_quiet_step (fail); (try (with_reducible refine wpQuiet_nil ?_))) | (with_reducible refine wpFork_eff ?_) | ((with_reducible refine effT_F ?_ ?_); (focus rfl); go_simp) | ((with_reducible refine effT_T ?_ ?_); (focus rfl); (try dsimp only); go_wp2_with (first | (go_at_call 88; (with_reducible refine (HA.out _ (by (try show Ex _ _); repeat (first | (with_reducible exact ex_refl _) | (with_reducible assumption) | (with_reducible refine ex_drewL ?_) | (with_reducible refine ex_appR ?_ _) | (with_reducible refine ex_wx ?_ _) | (with_reducible refine ex_drew ?_) | (with_reducible refine ex_alloc ?_ _)))).mono ?_); rintro e w2 ⟨rfl, rfl⟩) | (go_at_call 13; (with_reducible refine (long_any _ _ _ (HS.out _ (by (try show Ex _ _); repeat (first | (with_reducible exact ex_refl _) | (with_reducible assumption) | (with_reducible refine ex_drewL ?_) | (with_reducible refine ex_appR ?_ _) | (with_reducible refine ex_wx ?_ _) | (with_reducible refine ex_drew ?_) | (with_reducible refine ex_alloc ?_ _))))).mono ?_); rw [HV.out]; rintro e w2 ⟨rfl, X2, rfl⟩)); refine mixQ_mk (by (try show Ex _ _); repeat (first | (with_reducible exact ex_refl _) | (with_reducible assumption) | (with_reducible refine ex_drewL ?_) | (with_reducible refine ex_appR ?_ _) | (with_reducible refine ex_wx ?_ _) | (with_reducible refine ex_drew ?_) | (with_reducible refine ex_alloc ?_ _))) ?_))
        all_goals (with_reducible refine wpFork_nil ?_)
        all_goals
          go_wp2_with (go_at_call 89; (with_reducible refine (HG.out _ (H.out.grow (by (try show Ex _ _); repeat (first | (with_reducible exact ex_refl _) | (with_reducible assumption) | (with_reducible refine ex_drewL ?_) | (with_reducible refine ex_appR ?_ _) | (with_reducible refine ex_wx ?_ _) | (with_reducible refine ex_drew ?_) | (with_reducible refine ex_alloc ?_ _))))).mono ?_); rintro e w3 ⟨rfl, H2, zz2⟩; obtain ⟨_, ⟨r0, r1, r2, rf⟩, rqz, rpz⟩ := H2.cells; simp only at r2; replace H2 := Lib.hid H2; have zz3 := (Mt.ex (w := w) (by (try show Ex _ _); repeat (first | (with_reducible exact ex_refl _) | (with_reducible assumption) | (with_reducible refine ex_drewL ?_) | (with_reducible refine ex_appR ?_ _) | (with_reducible refine ex_wx ?_ _) | (with_reducible refine ex_drew ?_) | (with_reducible refine ex_alloc ?_ _)))).trans zz2; clear zz2)
          go_ret
          exact ⟨rfl, H2.out.setBad _, zz3.setP _ _⟩
    · have hc3 : ¬ (c : Int) = pl := by omega
      have HS := Lib.hid (fun W (k : Ex w W) => (HSl.out.from pl hle).ex k)
      clear k3 HSl
      cases bad
      ·
        refine wp_region_fork (w) (.look 0 (.look 1 (.look 2 (.look 3 (.look 4 (.look 5 (.look 6 (.look 7 (.eff 8 (.look 9 (.eff 10 (.look 11 (.look 12 (.look 13 (.look 14 (.look 15 (.look 16 (.look 17 .done)))))))))))))))))) (by (try show Ex _ _); repeat (first | (with_reducible exact ex_refl _) | (with_reducible assumption) | (with_reducible refine ex_drewL ?_) | (with_reducible refine ex_appR ?_ _) | (with_reducible refine ex_wx ?_ _) | (with_reducible refine ex_drew ?_) | (with_reducible refine ex_alloc ?_ _))) (by kernel_rfl) (by kernel_rfl) (fun _ _ d _ _ h => by cases d <;> exact h) ?_
        simp only [Fk.ops, nth]
        repeat (first | ((with_reducible refine wpFork_look ?_); go_big_quiet_step (fail); (try (with_reducible refine wpQuiet_nil ?_))) | (with_reducible refine wpFork_eff ?_) | ((with_reducible refine effT_F ?_ ?_); (focus rfl); go_simp) | ((with_reducible refine effT_T ?_ ?_); (focus rfl); (try dsimp only); go_wp2_with (first | (go_at_call 88; (with_reducible refine (HA.out _ (by (try show Ex _ _); repeat (first | (with_reducible exact ex_refl _) | (with_reducible assumption) | (with_reducible refine ex_drewL ?_) | (with_reducible refine ex_appR ?_ _) | (with_reducible refine ex_wx ?_ _) | (with_reducible refine ex_drew ?_) | (with_reducible refine ex_alloc ?_ _)))).mono ?_); rintro e w2 ⟨rfl, rfl⟩) | (go_at_call 13; (with_reducible refine (long_any _ _ _ (HS.out _ (by (try show Ex _ _); repeat (first | (with_reducible exact ex_refl _) | (with_reducible assumption) | (with_reducible refine ex_drewL ?_) | (with_reducible refine ex_appR ?_ _) | (with_reducible refine ex_wx ?_ _) | (with_reducible refine ex_drew ?_) | (with_reducible refine ex_alloc ?_ _))))).mono ?_); rw [HV.out]; rintro e w2 ⟨rfl, X2, rfl⟩)); refine mixQ_mk (by (try show Ex _ _); repeat (first | (with_reducible exact ex_refl _) | (with_reducible assumption) | (with_reducible refine ex_drewL ?_) | (with_reducible refine ex_appR ?_ _) | (with_reducible refine ex_wx ?_ _) | (with_reducible refine ex_drew ?_) | (with_reducible refine ex_alloc ?_ _))) ?_))
        all_goals (with_reducible refine wpFork_nil ?_)
        all_goals
          go_wp2_with (go_at_call 89; (with_reducible refine (HG.out _ (H.out.grow (by (try show Ex _ _); repeat (first | (with_reducible exact ex_refl _) | (with_reducible assumption) | (with_reducible refine ex_drewL ?_) | (with_reducible refine ex_appR ?_ _) | (with_reducible refine ex_wx ?_ _) | (with_reducible refine ex_drew ?_) | (with_reducible refine ex_alloc ?_ _))))).mono ?_); rintro e w3 ⟨rfl, H2, zz2⟩; obtain ⟨_, ⟨r0, r1, r2, rf⟩, rqz, rpz⟩ := H2.cells; simp only at r2; replace H2 := Lib.hid H2; have zz3 := (Mt.ex (w := w) (by (try show Ex _ _); repeat (first | (with_reducible exact ex_refl _) | (with_reducible assumption) | (with_reducible refine ex_drewL ?_) | (with_reducible refine ex_appR ?_ _) | (with_reducible refine ex_wx ?_ _) | (with_reducible refine ex_drew ?_) | (with_reducible refine ex_alloc ?_ _)))).trans zz2; clear zz2)
          go_ret
          exact ⟨rfl, H2.out.setBad _, zz3.setP _ _⟩
      ·
        refine wp_region_fork (w) (.look 0 (.look 1 (.look 2 (.look 3 (.look 4 (.look 5 (.look 6 (.look 7 (.eff 8 (.look 9 (.eff 10 (.look 11 (.look 12 (.look 13 (.look 14 (.look 15 (.look 16 (.look 17 .done)))))))))))))))))) (by (try show Ex _ _); repeat (first | (with_reducible exact ex_refl _) | (with_reducible assumption) | (with_reducible refine ex_drewL ?_) | (with_reducible refine ex_appR ?_ _) | (with_reducible refine ex_wx ?_ _) | (with_reducible refine ex_drew ?_) | (with_reducible refine ex_alloc ?_ _))) (by kernel_rfl) (by kernel_rfl) (fun _ _ d _ _ h => by cases d <;> exact h) ?_
        simp only [Fk.ops, nth]
        repeat (first | ((with_reducible refine wpFork_look ?_); go_big_quiet_step (fail); (try (with_reducible refine wpQuiet_nil ?_))) | (with_reducible refine wpFork_eff ?_) | ((with_reducible refine effT_F ?_ ?_); (focus rfl); go_simp) | ((with_reducible refine effT_T ?_ ?_); (focus rfl); (try dsimp only); go_wp2_with (first | (go_at_call 88; (with_reducible refine (HA.out _ (by (try show Ex _ _); repeat (first | (with_reducible exact ex_refl _) | (with_reducible assumption) | (with_reducible refine ex_drewL ?_) | (with_reducible refine ex_appR ?_ _) | (with_reducible refine ex_wx ?_ _) | (with_reducible refine ex_drew ?_) | (with_reducible refine ex_alloc ?_ _)))).mono ?_); rintro e w2 ⟨rfl, rfl⟩) | (go_at_call 13; (with_reducible refine (long_any _ _ _ (HS.out _ (by (try show Ex _ _); repeat (first | (with_reducible exact ex_refl _) | (with_reducible assumption) | (with_reducible refine ex_drewL ?_) | (with_reducible refine ex_appR ?_ _) | (with_reducible refine ex_wx ?_ _) | (with_reducible refine ex_drew ?_) | (with_reducible refine ex_alloc ?_ _))))).mono ?_); rw [HV.out]; rintro e w2 ⟨rfl, X2, rfl⟩)); refine mixQ_mk (by (try show Ex _ _); repeat (first | (with_reducible exact ex_refl _) | (with_reducible assumption) | (with_reducible refine ex_drewL ?_) | (with_reducible refine ex_appR ?_ _) | (with_reducible refine ex_wx ?_ _) | (with_reducible refine ex_drew ?_) | (with_reducible refine ex_alloc ?_ _))) ?_))
        all_goals (with_reducible refine wpFork_nil ?_)
        all_goals
          go_wp2_with (go_at_call 89; (with_reducible refine (HG.out _ (H.out.grow (by (try show Ex _ _); repeat (first | (with_reducible exact ex_refl _) | (with_reducible assumption) | (with_reducible refine ex_drewL ?_) | (with_reducible refine ex_appR ?_ _) | (with_reducible refine ex_wx ?_ _) | (with_reducible refine ex_drew ?_) | (with_reducible refine ex_alloc ?_ _))))).mono ?_); rintro e w3 ⟨rfl, H2, zz2⟩; obtain ⟨_, ⟨r0, r1, r2, rf⟩, rqz, rpz⟩ := H2.cells; simp only at r2; replace H2 := Lib.hid H2; have zz3 := (Mt.ex (w := w) (by (try show Ex _ _); repeat (first | (with_reducible exact ex_refl _) | (with_reducible assumption) | (with_reducible refine ex_drewL ?_) | (with_reducible refine ex_appR ?_ _) | (with_reducible refine ex_wx ?_ _) | (with_reducible refine ex_drew ?_) | (with_reducible refine ex_alloc ?_ _)))).trans zz2; clear zz2)
          go_ret
          exact ⟨rfl, H2.out.setBad _, zz3.setP _ _⟩
theorem many_any {A w : World} {Z p q bm : Nat} {xs : Value × Value × Value} {v : Value} {l : List UInt8} {s : Rs} {m : Ms} (h : RdM A w Z p q bm xs v l s m) (n : Nat) (hn : n ≤ 1000000) :
    Calls Tryd.prog 90 #[PT p, I n] w fun x w' => x = .returned (I ((manyP l n s).1 : Nat)) ∧ RdM A w' Z p q bm xs v l (manyP l n s).2 m ∧ Mt p q w w' := by
  have HN := Lib.hid (number_any h)
  have hx := num_lt l s
  unfold manyP
  generalize numP l s = r at *
  obtain ⟨x, s1⟩ := r
  obtain ⟨pl, er, bad⟩ := s1
  simp only at HN hx ⊢
  have hw : IntKind.u64.wrap (n : Int) = n := wrap_u64_nat n (by omega)
  have hwn : ((n : Int) < x) = (n < x) := by simp
  cases bad with
  | true =>
    rw [if_pos (by simp)]
    go_enter Tryd.func90, Tryd.ntmps90
    go_wp2_with (go_at_call 71; (with_reducible refine (HN.out).mono ?_); rintro e w3 ⟨rfl, H2, zz2⟩; obtain ⟨_, ⟨r0, r1, r2, rf⟩, rqz, rpz⟩ := H2.cells; simp only at r2; replace H2 := Lib.hid H2)
    go_ret
    exact ⟨rfl, H2.out.setBad _, zz2.setP _ _⟩
  | false =>
    by_cases hnx : n < x
    · rw [if_pos (by simp [hnx])]
      have h1 : (n : Int) < x := by omega
      go_enter Tryd.func90, Tryd.ntmps90
      go_wp2_with (go_at_call 71; (with_reducible refine (HN.out).mono ?_); rintro e w3 ⟨rfl, H2, zz2⟩; obtain ⟨_, ⟨r0, r1, r2, rf⟩, rqz, rpz⟩ := H2.cells; simp only at r2; replace H2 := Lib.hid H2)
      go_ret
      exact ⟨rfl, H2.out.setBad _, zz2.setP _ _⟩
    · rw [if_neg (by simp [hnx])]
      have h1 : ¬ (n : Int) < x := by omega
      have h2 : wrap64 (x : Int) = x := by unfold wrap64; omega
      go_enter Tryd.func90, Tryd.ntmps90
      go_wp2_with (go_at_call 71; (with_reducible refine (HN.out).mono ?_); rintro e w3 ⟨rfl, H2, zz2⟩; obtain ⟨_, ⟨r0, r1, r2, rf⟩, rqz, rpz⟩ := H2.cells; simp only at r2; replace H2 := Lib.hid H2)
      go_ret
      exact ⟨rfl, H2.out.setBad _, zz2.setP _ _⟩
end Go.Proofs.YtpcfkjeikhehaaaDoor
