import Derived.Test.YtcdocklbpfdmeaaDoorMClimb

/- Ranges; which pairs may be. -/
set_option linter.unusedSimpArgs false
set_option linter.unusedVariables false
set_option maxRecDepth 20000
namespace Go.Proofs.YtcdocklbpfdmeaaDoor
open Go.RowKit
def RC (r : Rg) : Array Value := #[.string r.lo, .string r.hi, .bool r.op]
theorem in_any (r : Rg) (k : ByteArray) (w : World) : Calls Tryd.prog 17 #[.agg (RC r), .string k] w (Post w (.bool (inP r k))) := by
  obtain ⟨lo, hi, op⟩ := r
  unfold inP RC
  simp only
  obtain ⟨b1, e1⟩ : ∃ b, Op.bytesLess k.toList lo.toList = b := ⟨_, rfl⟩
  obtain ⟨b2, e2⟩ : ∃ b, Op.bytesLess k.toList hi.toList = b := ⟨_, rfl⟩
  unfold ltS
  rw [e1, e2]
  cases b1 <;> cases op
  all_goals
    go_enter Tryd.func17, Tryd.ntmps17
    go_wp2
    go_ret
    exact post_mk (by simp) (by (try show Ex _ _); with_reducible repeat (first | exact ex_refl _ | assumption | refine ex_drewL ?_ | refine ex_appR ?_ _ | refine ex_wx ?_ _ | refine ex_drew ?_ | refine ex_alloc ?_ _))
theorem refin_any (r : Rg) (k : ByteArray) (w : World) : Calls Tryd.prog 128 #[.agg (RC r), .string k] w (Post w (.bool (inP r k))) := by
  obtain ⟨lo, hi, op⟩ := r
  unfold inP RC
  simp only
  obtain ⟨b1, e1⟩ : ∃ b, Op.bytesLess k.toList lo.toList = b := ⟨_, rfl⟩
  obtain ⟨b2, e2⟩ : ∃ b, Op.bytesLess k.toList hi.toList = b := ⟨_, rfl⟩
  unfold ltS
  rw [e1, e2]
  cases b1 <;> cases op
  all_goals
    go_enter Tryd.func128, Tryd.ntmps128
    go_wp2
    go_ret
    exact post_mk (by simp) (by (try show Ex _ _); with_reducible repeat (first | exact ex_refl _ | assumption | refine ex_drewL ?_ | refine ex_appR ?_ _ | refine ex_wx ?_ _ | refine ex_drew ?_ | refine ex_alloc ?_ _))
theorem bad_iff (l : List Pr) (i : Nat) : badAt l i = true ↔ ((prAt l i).1.size < 1 ∨ 200 < (prAt l i).1.size ∨ 1000 < (prAt l i).2.size ∨ (0 < i ∧ ltS (prAt l (i - 1)).1 (prAt l i).1 = false) ∨ i = 200) := by
  simp [badAt, or_assoc]
theorem right_good {l : List Pr} (h : ∀ i, i < l.length → ¬ ((prAt l i).1.size < 1 ∨ 200 < (prAt l i).1.size ∨ 1000 < (prAt l i).2.size ∨ (0 < i ∧ ltS (prAt l (i - 1)).1 (prAt l i).1 = false) ∨ i = 200)) : rightP l = true :=
  right_iff.2 fun i hi => by
    cases hb : badAt l i with
    | false => rfl
    | true => exact absurd ((bad_iff l i).1 hb) (h i hi)
def chkP (l : List Pr) : Int := if rightP l then 0 else 250
theorem Check_any (l : List Pr) (a : Option Addr) (c : Nat) (w : World) (hc : l.length ≤ c) (hcm : c ≤ maxLen) (hs : SlP w a l) :
    Calls Tryd.prog 62 #[.slice a l.length c] w (Post w (I (chkP l))) := by
  have HB : Hid (∀ i, i < l.length → ((prAt l i).1.size < 1 ∨ 200 < (prAt l i).1.size ∨ 1000 < (prAt l i).2.size ∨ (0 < i ∧ ltS (prAt l (i - 1)).1 (prAt l i).1 = false) ∨ i = 200) → chkP l = 250) := Lib.hid fun i hi h => by (try unfold chkP); rw [right_bad hi ((bad_iff l i).2 h)]; try rfl
  have HO : Hid ((∀ i, i < l.length → ¬ ((prAt l i).1.size < 1 ∨ 200 < (prAt l i).1.size ∨ 1000 < (prAt l i).2.size ∨ (0 < i ∧ ltS (prAt l (i - 1)).1 (prAt l i).1 = false) ∨ i = 200)) → chkP l = 0) := Lib.hid fun h => by (try unfold chkP); rw [right_good h]; try rfl
  have HS : Hid (∀ W, Ex w W → ∀ i, i < l.length → ∃ g off, a = some ⟨g, off, none⟩ ∧ g < W.heap.size ∧ cellsN W g (off + i * 2) 2 = some (PC (prAt l i)) ∧ W.cell? ⟨g, off + i * 2, none⟩ = some (.string (prAt l i).1) ∧ W.cell? ⟨g, off + i * 2 + 1, none⟩ = some (.string (prAt l i).2)) := Lib.hid fun W k i hi => (hs.ex k).row hi
  generalize chkP l = ov at HB HO ⊢
  generalize l.length = n at HB HO HS hc ⊢
  generalize prAt l = pr at HB HO HS
  clear hs
  unfold maxLen at hcm
  go_enter Tryd.func62, Tryd.ntmps62
  go_wp2
  go_loopw [7] (fun i wr => ∃ k : Nat, k ≤ n ∧ i = I k ∧ Hid (∀ i, i < k → ¬ ((pr i).1.size < 1 ∨ 200 < (pr i).1.size ∨ 1000 < (pr i).2.size ∨ (0 < i ∧ ltS (pr (i - 1)).1 (pr i).1 = false) ∨ i = 200)) ∧ Ex w wr) (fun i _ => n - (intOf i).toNat)
  case atStart => exact ⟨0, by omega, rfl, Lib.hid (fun i hi => absurd hi (by omega)), (by (try show Ex _ _); with_reducible repeat (first | exact ex_refl _ | assumption | refine ex_drewL ?_ | refine ex_appR ?_ _ | refine ex_wx ?_ _ | refine ex_drew ?_ | refine ex_alloc ?_ _))⟩
  case round =>
    obtain ⟨k, hk, rfl, HK, kr⟩ := hrel
    by_cases hlt : k < n
    · obtain ⟨g, off, rfl, r1, r2, r3, r4⟩ := HS.out wr kr k hlt
      have HBk := Lib.hid (HB.out k hlt)
      have HK2 : Hid (¬ ((pr k).1.size < 1 ∨ 200 < (pr k).1.size ∨ 1000 < (pr k).2.size ∨ (0 < k ∧ ltS (pr (k - 1)).1 (pr k).1 = false) ∨ k = 200) → ∀ i, i < k + 1 → ¬ ((pr i).1.size < 1 ∨ 200 < (pr i).1.size ∨ 1000 < (pr i).2.size ∨ (0 < i ∧ ltS (pr (i - 1)).1 (pr i).1 = false) ∨ i = 200)) := Lib.hid fun h i hi => by
        rcases Nat.lt_or_ge i k with h2 | h2
        · exact HK.out i h2
        · obtain rfl : i = k := by omega
          exact h
      have HP : Hid (0 < k → ∃ r : Nat, r + 1 = k ∧ wr.cell? ⟨g, off + r * 2, none⟩ = some (.string (pr (k - 1)).1)) := Lib.hid fun h => by
        obtain ⟨g', off', h1, _, _, h4, _⟩ := HS.out wr kr (k - 1) (by omega)
        cases h1
        exact ⟨k - 1, by omega, h4⟩
      clear HK HB HO HS
      generalize pr (k - 1) = q at HBk HK2 HP
      generalize pr k = p at r2 r3 r4 HBk HK2
      obtain ⟨s, t⟩ := p
      obtain ⟨q, q2⟩ := q
      simp only at r3 r4 HBk HK2 HP
      obtain ⟨bz, hz⟩ : ∃ b, Op.bytesLess q.toList s.toList = b := ⟨_, rfl⟩
      have hz2 := leS s q
      unfold ltS eqS at hz2
      unfold ltS at HBk HK2
      rw [hz] at HBk HK2 hz2
      unfold PC at r2
      by_cases c1 : s.size < 1 ∨ 200 < s.size ∨ 1000 < t.size
      · obtain rfl := HBk.out (by omega)
        clear HBk HK2 HP hz2
        by_cases d1 : (s.size : Int) < 1
        · have d1t := decide_eq_true d1
          clear c1
          go_wp2
          refine wp_region_seq [(0, true), (1, true), (2, true), (3, true), (4, true), (5, true), (6, true), (7, true), (8, true), (9, true), (10, true), (11, true), (12, true), (13, true), (14, true), (15, true), (16, true), (17, true), (18, true), (19, true), (20, true), (21, true), (22, true), (23, true), (24, true), (25, true), (26, true), (27, true), (28, true), (29, true), (30, true), (31, true), (32, true), (33, true), (34, true)] (by kernel_rfl) (by kernel_rfl) (fun _ _ d _ _ h => by cases d <;> exact h) ?_
          simp only [List.map_cons, List.map_nil, nth]
          repeat (first | ((with_reducible refine wpSeq_look ?_); go_big_quiet_step (fail); (with_reducible refine wpQuiet_nil ?_)) | ((with_reducible refine wpSeq_effF ?_ ?_); (focus rfl); go_simp) | ((with_reducible refine wpSeq_eff ?_ ?_); (focus rfl); (try dsimp only); go_wp2_with (fail); refine mixQ_mk (by (try show Ex _ _); with_reducible repeat (first | exact ex_refl _ | assumption | refine ex_drewL ?_ | refine ex_appR ?_ _ | refine ex_wx ?_ _ | refine ex_drew ?_ | refine ex_alloc ?_ _)) ?_))
          refine wpSeq_nil ?_
          go_wp2
          go_ret
          exact post_mk rfl (by (try show Ex _ _); with_reducible repeat (first | exact ex_refl _ | assumption | refine ex_drewL ?_ | refine ex_appR ?_ _ | refine ex_wx ?_ _ | refine ex_drew ?_ | refine ex_alloc ?_ _))
        · have d1t := decide_eq_false d1
          by_cases d2 : 200 < (s.size : Int)
          · clear c1
            go_wp2
            refine wp_region_seq [(0, true), (1, true), (2, true), (3, true), (4, true), (5, true), (6, true), (7, true), (8, true), (9, true), (10, true), (11, true), (12, true), (13, true), (14, true), (15, true), (16, true), (17, true), (18, true), (19, true), (20, true), (21, true), (22, true), (23, true), (24, true), (25, true), (26, true), (27, true), (28, true), (29, true), (30, true), (31, true), (32, true), (33, true), (34, true)] (by kernel_rfl) (by kernel_rfl) (fun _ _ d _ _ h => by cases d <;> exact h) ?_
            simp only [List.map_cons, List.map_nil, nth]
            repeat (first | ((with_reducible refine wpSeq_look ?_); go_big_quiet_step (fail); (with_reducible refine wpQuiet_nil ?_)) | ((with_reducible refine wpSeq_effF ?_ ?_); (focus rfl); go_simp) | ((with_reducible refine wpSeq_eff ?_ ?_); (focus rfl); (try dsimp only); go_wp2_with (fail); refine mixQ_mk (by (try show Ex _ _); with_reducible repeat (first | exact ex_refl _ | assumption | refine ex_drewL ?_ | refine ex_appR ?_ _ | refine ex_wx ?_ _ | refine ex_drew ?_ | refine ex_alloc ?_ _)) ?_))
            refine wpSeq_nil ?_
            go_wp2
            go_ret
            exact post_mk rfl (by (try show Ex _ _); with_reducible repeat (first | exact ex_refl _ | assumption | refine ex_drewL ?_ | refine ex_appR ?_ _ | refine ex_wx ?_ _ | refine ex_drew ?_ | refine ex_alloc ?_ _))
          · have d3 : 1000 < (t.size : Int) := by omega
            have d3t := decide_eq_true d3
            have d2t := decide_eq_false d2
            clear c1
            go_wp2
            refine wp_region_seq [(0, true), (1, true), (2, true), (3, true), (4, true), (5, true), (6, true), (7, true), (8, true), (9, true), (10, true), (11, true), (12, true), (13, true), (14, true), (15, true), (16, true), (17, true), (18, true), (19, true), (20, true), (21, true), (22, true), (23, true), (24, true), (25, true), (26, true), (27, true), (28, true), (29, true), (30, true), (31, true), (32, true), (33, true), (34, true)] (by kernel_rfl) (by kernel_rfl) (fun _ _ d _ _ h => by cases d <;> exact h) ?_
            simp only [List.map_cons, List.map_nil, nth]
            repeat (first | ((with_reducible refine wpSeq_look ?_); go_big_quiet_step (fail); (with_reducible refine wpQuiet_nil ?_)) | ((with_reducible refine wpSeq_effF ?_ ?_); (focus rfl); go_simp) | ((with_reducible refine wpSeq_eff ?_ ?_); (focus rfl); (try dsimp only); go_wp2_with (fail); refine mixQ_mk (by (try show Ex _ _); with_reducible repeat (first | exact ex_refl _ | assumption | refine ex_drewL ?_ | refine ex_appR ?_ _ | refine ex_wx ?_ _ | refine ex_drew ?_ | refine ex_alloc ?_ _)) ?_))
            refine wpSeq_nil ?_
            go_wp2
            go_ret
            exact post_mk rfl (by (try show Ex _ _); with_reducible repeat (first | exact ex_refl _ | assumption | refine ex_drewL ?_ | refine ex_appR ?_ _ | refine ex_wx ?_ _ | refine ex_drew ?_ | refine ex_alloc ?_ _))
      · have d1 : ¬ (s.size : Int) < 1 := by omega
        have d2 : ¬ 200 < (s.size : Int) := by omega
        have d3 : ¬ 1000 < (t.size : Int) := by omega
        have d1t := decide_eq_false d1
        have d2t := decide_eq_false d2
        have d3t := decide_eq_false d3
        by_cases h0 : k = 0
        · have hk2 := Lib.hid (HK2.out (by omega))
          have h0' : ¬ (0 : Int) < k := by omega
          have h0t := decide_eq_false h0'
          have h0n : decide (0 < k) = false := decide_eq_false (by omega)
          have h0'' : ((k : Int) == 200) = false := beq_eq_false_iff_ne.2 (by omega)
          clear c1 HBk HK2 HP hz2 h0
          go_wp2
          refine wp_region_seq [(0, true), (1, true), (2, true), (3, true), (4, true), (5, true), (6, true), (7, true), (8, true), (9, true), (10, true), (11, true), (12, true), (13, true), (14, true), (15, true), (16, true), (17, true), (18, true), (19, true), (20, true), (21, true), (22, true), (23, true), (24, true), (25, true), (26, true), (27, true), (28, true), (29, true), (30, true), (31, true), (32, true), (33, true), (34, true)] (by kernel_rfl) (by kernel_rfl) (fun _ _ d _ _ h => by cases d <;> exact h) ?_
          simp only [List.map_cons, List.map_nil, nth]
          repeat (first | ((with_reducible refine wpSeq_look ?_); go_big_quiet_step (fail); (with_reducible refine wpQuiet_nil ?_)) | ((with_reducible refine wpSeq_effF ?_ ?_); (focus rfl); go_simp) | ((with_reducible refine wpSeq_eff ?_ ?_); (focus rfl); (try dsimp only); go_wp2_with (fail); refine mixQ_mk (by (try show Ex _ _); with_reducible repeat (first | exact ex_refl _ | assumption | refine ex_drewL ?_ | refine ex_appR ?_ _ | refine ex_wx ?_ _ | refine ex_drew ?_ | refine ex_alloc ?_ _)) ?_))
          refine wpSeq_nil ?_
          go_wp2
          refine ⟨⟨k + 1, by omega, by go_num, hk2, (by (try show Ex _ _); with_reducible repeat (first | exact ex_refl _ | assumption | refine ex_drewL ?_ | refine ex_appR ?_ _ | refine ex_wx ?_ _ | refine ex_drew ?_ | refine ex_alloc ?_ _))⟩, by simp [intOf]; omega⟩
        · have h0' : (0 : Int) < k := by omega
          obtain ⟨r, hr, r5⟩ := HP.out (by omega)
          subst hr
          have h0t := decide_eq_true h0'
          have h0u : decide ((0 : Int) < (r : Int) + 1) = true := decide_eq_true (by omega)
          cases bz
          · obtain rfl := HBk.out (.inr (.inr (.inr (.inl ⟨by omega, rfl⟩))))
            clear c1 HBk HK2 HP hz2
            go_wp2
            refine wp_region_seq [(0, true), (1, true), (2, true), (3, true), (4, true), (5, true), (6, true), (7, true), (8, true), (9, true), (10, true), (11, true), (12, true), (13, true), (14, true), (15, true), (16, true), (17, true), (18, true), (19, true), (20, true), (21, true), (22, true), (23, true), (24, true), (25, true), (26, true), (27, true), (28, true), (29, true), (30, true), (31, true), (32, true), (33, true), (34, true)] (by kernel_rfl) (by kernel_rfl) (fun _ _ d _ _ h => by cases d <;> exact h) ?_
            simp only [List.map_cons, List.map_nil, nth]
            repeat (first | ((with_reducible refine wpSeq_look ?_); go_big_quiet_step (fail); (with_reducible refine wpQuiet_nil ?_)) | ((with_reducible refine wpSeq_effF ?_ ?_); (focus rfl); go_simp) | ((with_reducible refine wpSeq_eff ?_ ?_); (focus rfl); (try dsimp only); go_wp2_with (fail); refine mixQ_mk (by (try show Ex _ _); with_reducible repeat (first | exact ex_refl _ | assumption | refine ex_drewL ?_ | refine ex_appR ?_ _ | refine ex_wx ?_ _ | refine ex_drew ?_ | refine ex_alloc ?_ _)) ?_))
            refine wpSeq_nil ?_
            go_wp2
            go_ret
            exact post_mk rfl (by (try show Ex _ _); with_reducible repeat (first | exact ex_refl _ | assumption | refine ex_drewL ?_ | refine ex_appR ?_ _ | refine ex_wx ?_ _ | refine ex_drew ?_ | refine ex_alloc ?_ _))
          · by_cases h2 : r + 1 = 200
            · obtain rfl := HBk.out (by omega)
              have h0'' : (((r + 1 : Nat) : Int) == 200) = true := by rw [h2]; rfl
              have H2 := Lib.hid h2
              clear c1 HBk HK2 HP hz2 h2 h0
              go_wp2
              refine wp_region_seq [(0, true), (1, true), (2, true), (3, true), (4, true), (5, true), (6, true), (7, true), (8, true), (9, true), (10, true), (11, true), (12, true), (13, true), (14, true), (15, true), (16, true), (17, true), (18, true), (19, true), (20, true), (21, true), (22, true), (23, true), (24, true), (25, true), (26, true), (27, true), (28, true), (29, true), (30, true), (31, true), (32, true), (33, true), (34, true)] (by kernel_rfl) (by kernel_rfl) (fun _ _ d _ _ h => by cases d <;> exact h) ?_
              simp only [List.map_cons, List.map_nil, nth]
              repeat (first | ((with_reducible refine wpSeq_look ?_); go_big_quiet_step (fail); (with_reducible refine wpQuiet_nil ?_)) | ((with_reducible refine wpSeq_effF ?_ ?_); (focus rfl); go_simp) | ((with_reducible refine wpSeq_eff ?_ ?_); (focus rfl); (try dsimp only); go_wp2_with (fail); refine mixQ_mk (by (try show Ex _ _); with_reducible repeat (first | exact ex_refl _ | assumption | refine ex_drewL ?_ | refine ex_appR ?_ _ | refine ex_wx ?_ _ | refine ex_drew ?_ | refine ex_alloc ?_ _)) ?_))
              refine wpSeq_nil ?_
              go_wp2
              go_ret
              exact post_mk rfl (by (try show Ex _ _); with_reducible repeat (first | exact ex_refl _ | assumption | refine ex_drewL ?_ | refine ex_appR ?_ _ | refine ex_wx ?_ _ | refine ex_drew ?_ | refine ex_alloc ?_ _))
            · have h0'' : (((r + 1 : Nat) : Int) == 200) = false := beq_eq_false_iff_ne.2 (by omega)
              have hk2 := Lib.hid (HK2.out (by rintro (h | h | h | ⟨_, h⟩ | h) <;> first | omega | cases h))
              clear c1 HBk HK2 HP hz2 h2 h0
              go_wp2
              refine wp_region_seq [(0, true), (1, true), (2, true), (3, true), (4, true), (5, true), (6, true), (7, true), (8, true), (9, true), (10, true), (11, true), (12, true), (13, true), (14, true), (15, true), (16, true), (17, true), (18, true), (19, true), (20, true), (21, true), (22, true), (23, true), (24, true), (25, true), (26, true), (27, true), (28, true), (29, true), (30, true), (31, true), (32, true), (33, true), (34, true)] (by kernel_rfl) (by kernel_rfl) (fun _ _ d _ _ h => by cases d <;> exact h) ?_
              simp only [List.map_cons, List.map_nil, nth]
              repeat (first | ((with_reducible refine wpSeq_look ?_); go_big_quiet_step (fail); (with_reducible refine wpQuiet_nil ?_)) | ((with_reducible refine wpSeq_effF ?_ ?_); (focus rfl); go_simp) | ((with_reducible refine wpSeq_eff ?_ ?_); (focus rfl); (try dsimp only); go_wp2_with (fail); refine mixQ_mk (by (try show Ex _ _); with_reducible repeat (first | exact ex_refl _ | assumption | refine ex_drewL ?_ | refine ex_appR ?_ _ | refine ex_wx ?_ _ | refine ex_drew ?_ | refine ex_alloc ?_ _)) ?_))
              refine wpSeq_nil ?_
              go_wp2
              refine ⟨⟨r + 1 + 1, by omega, by go_num, hk2, (by (try show Ex _ _); with_reducible repeat (first | exact ex_refl _ | assumption | refine ex_drewL ?_ | refine ex_appR ?_ _ | refine ex_wx ?_ _ | refine ex_drew ?_ | refine ex_alloc ?_ _))⟩, by simp [intOf]; omega⟩
    · obtain rfl : k = n := by omega
      obtain rfl := HO.out HK.out
      clear hlt hk HB HS
      go_wp2
      go_ret
      exact post_mk rfl (by (try show Ex _ _); with_reducible repeat (first | exact ex_refl _ | assumption | refine ex_drewL ?_ | refine ex_appR ?_ _ | refine ex_wx ?_ _ | refine ex_drew ?_ | refine ex_alloc ?_ _))
theorem Right_any (l : List Pr) (a : Option Addr) (c : Nat) (w : World) (hc : l.length ≤ c) (hcm : c ≤ maxLen) (hs : SlP w a l) :
    Calls Tryd.prog 45 #[.slice a l.length c] w (Post w (.bool (rightP l))) := by
  have HB : Hid (∀ i, i < l.length → ((prAt l i).1.size < 1 ∨ 200 < (prAt l i).1.size ∨ 1000 < (prAt l i).2.size ∨ (0 < i ∧ ltS (prAt l (i - 1)).1 (prAt l i).1 = false) ∨ i = 200) → rightP l = false) := Lib.hid fun i hi h => by (try unfold chkP); rw [right_bad hi ((bad_iff l i).2 h)]; try rfl
  have HO : Hid ((∀ i, i < l.length → ¬ ((prAt l i).1.size < 1 ∨ 200 < (prAt l i).1.size ∨ 1000 < (prAt l i).2.size ∨ (0 < i ∧ ltS (prAt l (i - 1)).1 (prAt l i).1 = false) ∨ i = 200)) → rightP l = true) := Lib.hid fun h => by (try unfold chkP); rw [right_good h]; try rfl
  have HS : Hid (∀ W, Ex w W → ∀ i, i < l.length → ∃ g off, a = some ⟨g, off, none⟩ ∧ g < W.heap.size ∧ cellsN W g (off + i * 2) 2 = some (PC (prAt l i)) ∧ W.cell? ⟨g, off + i * 2, none⟩ = some (.string (prAt l i).1) ∧ W.cell? ⟨g, off + i * 2 + 1, none⟩ = some (.string (prAt l i).2)) := Lib.hid fun W k i hi => (hs.ex k).row hi
  generalize rightP l = ov at HB HO ⊢
  generalize l.length = n at HB HO HS hc ⊢
  generalize prAt l = pr at HB HO HS
  clear hs
  unfold maxLen at hcm
  go_enter Tryd.func45, Tryd.ntmps45
  go_wp2
  go_loopw [3] (fun i wr => ∃ k : Nat, k ≤ n ∧ i = I k ∧ Hid (∀ i, i < k → ¬ ((pr i).1.size < 1 ∨ 200 < (pr i).1.size ∨ 1000 < (pr i).2.size ∨ (0 < i ∧ ltS (pr (i - 1)).1 (pr i).1 = false) ∨ i = 200)) ∧ Ex w wr) (fun i _ => n - (intOf i).toNat)
  case atStart => exact ⟨0, by omega, rfl, Lib.hid (fun i hi => absurd hi (by omega)), (by (try show Ex _ _); with_reducible repeat (first | exact ex_refl _ | assumption | refine ex_drewL ?_ | refine ex_appR ?_ _ | refine ex_wx ?_ _ | refine ex_drew ?_ | refine ex_alloc ?_ _))⟩
  case round =>
    obtain ⟨k, hk, rfl, HK, kr⟩ := hrel
    by_cases hlt : k < n
    · obtain ⟨g, off, rfl, r1, r2, r3, r4⟩ := HS.out wr kr k hlt
      have HBk := Lib.hid (HB.out k hlt)
      have HK2 : Hid (¬ ((pr k).1.size < 1 ∨ 200 < (pr k).1.size ∨ 1000 < (pr k).2.size ∨ (0 < k ∧ ltS (pr (k - 1)).1 (pr k).1 = false) ∨ k = 200) → ∀ i, i < k + 1 → ¬ ((pr i).1.size < 1 ∨ 200 < (pr i).1.size ∨ 1000 < (pr i).2.size ∨ (0 < i ∧ ltS (pr (i - 1)).1 (pr i).1 = false) ∨ i = 200)) := Lib.hid fun h i hi => by
        rcases Nat.lt_or_ge i k with h2 | h2
        · exact HK.out i h2
        · obtain rfl : i = k := by omega
          exact h
      have HP : Hid (0 < k → ∃ r : Nat, r + 1 = k ∧ wr.cell? ⟨g, off + r * 2, none⟩ = some (.string (pr (k - 1)).1)) := Lib.hid fun h => by
        obtain ⟨g', off', h1, _, _, h4, _⟩ := HS.out wr kr (k - 1) (by omega)
        cases h1
        exact ⟨k - 1, by omega, h4⟩
      clear HK HB HO HS
      generalize pr (k - 1) = q at HBk HK2 HP
      generalize pr k = p at r2 r3 r4 HBk HK2
      obtain ⟨s, t⟩ := p
      obtain ⟨q, q2⟩ := q
      simp only at r3 r4 HBk HK2 HP
      obtain ⟨bz, hz⟩ : ∃ b, Op.bytesLess q.toList s.toList = b := ⟨_, rfl⟩
      have hz2 := leS s q
      unfold ltS eqS at hz2
      unfold ltS at HBk HK2
      rw [hz] at HBk HK2 hz2
      unfold PC at r2
      by_cases h2 : k = 200
      · obtain rfl := HBk.out (by omega)
        have h0'' : ((k : Int) == 200) = true := by rw [h2]; rfl
        clear HBk HK2 HP hz2 h2
        go_wp2
        refine wp_region_seq [(0, true), (1, true), (2, true), (3, true), (4, true), (5, true), (6, true), (7, true), (8, true), (9, true), (10, true), (11, true), (12, true), (13, true), (14, true), (15, true), (16, true), (17, true), (18, true), (19, true), (20, true), (21, true), (22, true), (23, true), (24, true), (25, true), (26, true), (27, true), (28, true), (29, true), (30, true), (31, true), (32, true), (33, true), (34, true), (35, true), (36, true), (37, true), (38, true), (39, true), (40, true), (41, true), (42, true), (43, true), (44, true), (45, true), (46, true)] (by kernel_rfl) (by kernel_rfl) (fun _ _ d _ _ h => by cases d <;> exact h) ?_
        simp only [List.map_cons, List.map_nil, nth]
        repeat (first | ((with_reducible refine wpSeq_look ?_); go_big_quiet_step (fail); (with_reducible refine wpQuiet_nil ?_)) | ((with_reducible refine wpSeq_effF ?_ ?_); (focus rfl); go_simp) | ((with_reducible refine wpSeq_eff ?_ ?_); (focus rfl); (try dsimp only); go_wp2_with (fail); refine mixQ_mk (by (try show Ex _ _); with_reducible repeat (first | exact ex_refl _ | assumption | refine ex_drewL ?_ | refine ex_appR ?_ _ | refine ex_wx ?_ _ | refine ex_drew ?_ | refine ex_alloc ?_ _)) ?_))
        refine wpSeq_nil ?_
        go_wp2
        go_ret
        exact post_mk rfl (by (try show Ex _ _); with_reducible repeat (first | exact ex_refl _ | assumption | refine ex_drewL ?_ | refine ex_appR ?_ _ | refine ex_wx ?_ _ | refine ex_drew ?_ | refine ex_alloc ?_ _))
      · have h0'' : ((k : Int) == 200) = false := beq_eq_false_iff_ne.2 (by omega)
        by_cases c1 : s.size < 1 ∨ 200 < s.size ∨ 1000 < t.size
        · obtain rfl := HBk.out (by omega)
          clear HBk HK2 HP hz2 h2
          by_cases d1 : (s.size : Int) < 1
          · have d1t := decide_eq_true d1
            clear c1
            go_wp2
            refine wp_region_seq [(0, true), (1, true), (2, true), (3, true), (4, true), (5, true), (6, true), (7, true), (8, true), (9, true), (10, true), (11, true), (12, true), (13, true), (14, true), (15, true), (16, true), (17, true), (18, true), (19, true), (20, true), (21, true), (22, true), (23, true), (24, true), (25, true), (26, true), (27, true), (28, true), (29, true), (30, true), (31, true), (32, true), (33, true), (34, true), (35, true), (36, true), (37, true), (38, true), (39, true), (40, true), (41, true), (42, true), (43, true), (44, true), (45, true), (46, true)] (by kernel_rfl) (by kernel_rfl) (fun _ _ d _ _ h => by cases d <;> exact h) ?_
            simp only [List.map_cons, List.map_nil, nth]
            repeat (first | ((with_reducible refine wpSeq_look ?_); go_big_quiet_step (fail); (with_reducible refine wpQuiet_nil ?_)) | ((with_reducible refine wpSeq_effF ?_ ?_); (focus rfl); go_simp) | ((with_reducible refine wpSeq_eff ?_ ?_); (focus rfl); (try dsimp only); go_wp2_with (fail); refine mixQ_mk (by (try show Ex _ _); with_reducible repeat (first | exact ex_refl _ | assumption | refine ex_drewL ?_ | refine ex_appR ?_ _ | refine ex_wx ?_ _ | refine ex_drew ?_ | refine ex_alloc ?_ _)) ?_))
            refine wpSeq_nil ?_
            go_wp2
            go_ret
            exact post_mk rfl (by (try show Ex _ _); with_reducible repeat (first | exact ex_refl _ | assumption | refine ex_drewL ?_ | refine ex_appR ?_ _ | refine ex_wx ?_ _ | refine ex_drew ?_ | refine ex_alloc ?_ _))
          · have d1t := decide_eq_false d1
            by_cases d2 : 200 < (s.size : Int)
            · clear c1
              go_wp2
              refine wp_region_seq [(0, true), (1, true), (2, true), (3, true), (4, true), (5, true), (6, true), (7, true), (8, true), (9, true), (10, true), (11, true), (12, true), (13, true), (14, true), (15, true), (16, true), (17, true), (18, true), (19, true), (20, true), (21, true), (22, true), (23, true), (24, true), (25, true), (26, true), (27, true), (28, true), (29, true), (30, true), (31, true), (32, true), (33, true), (34, true), (35, true), (36, true), (37, true), (38, true), (39, true), (40, true), (41, true), (42, true), (43, true), (44, true), (45, true), (46, true)] (by kernel_rfl) (by kernel_rfl) (fun _ _ d _ _ h => by cases d <;> exact h) ?_
              simp only [List.map_cons, List.map_nil, nth]
              repeat (first | ((with_reducible refine wpSeq_look ?_); go_big_quiet_step (fail); (with_reducible refine wpQuiet_nil ?_)) | ((with_reducible refine wpSeq_effF ?_ ?_); (focus rfl); go_simp) | ((with_reducible refine wpSeq_eff ?_ ?_); (focus rfl); (try dsimp only); go_wp2_with (fail); refine mixQ_mk (by (try show Ex _ _); with_reducible repeat (first | exact ex_refl _ | assumption | refine ex_drewL ?_ | refine ex_appR ?_ _ | refine ex_wx ?_ _ | refine ex_drew ?_ | refine ex_alloc ?_ _)) ?_))
              refine wpSeq_nil ?_
              go_wp2
              go_ret
              exact post_mk rfl (by (try show Ex _ _); with_reducible repeat (first | exact ex_refl _ | assumption | refine ex_drewL ?_ | refine ex_appR ?_ _ | refine ex_wx ?_ _ | refine ex_drew ?_ | refine ex_alloc ?_ _))
            · have d3 : 1000 < (t.size : Int) := by omega
              have d3t := decide_eq_true d3
              have d2t := decide_eq_false d2
              clear c1
              go_wp2
              refine wp_region_seq [(0, true), (1, true), (2, true), (3, true), (4, true), (5, true), (6, true), (7, true), (8, true), (9, true), (10, true), (11, true), (12, true), (13, true), (14, true), (15, true), (16, true), (17, true), (18, true), (19, true), (20, true), (21, true), (22, true), (23, true), (24, true), (25, true), (26, true), (27, true), (28, true), (29, true), (30, true), (31, true), (32, true), (33, true), (34, true), (35, true), (36, true), (37, true), (38, true), (39, true), (40, true), (41, true), (42, true), (43, true), (44, true), (45, true), (46, true)] (by kernel_rfl) (by kernel_rfl) (fun _ _ d _ _ h => by cases d <;> exact h) ?_
              simp only [List.map_cons, List.map_nil, nth]
              repeat (first | ((with_reducible refine wpSeq_look ?_); go_big_quiet_step (fail); (with_reducible refine wpQuiet_nil ?_)) | ((with_reducible refine wpSeq_effF ?_ ?_); (focus rfl); go_simp) | ((with_reducible refine wpSeq_eff ?_ ?_); (focus rfl); (try dsimp only); go_wp2_with (fail); refine mixQ_mk (by (try show Ex _ _); with_reducible repeat (first | exact ex_refl _ | assumption | refine ex_drewL ?_ | refine ex_appR ?_ _ | refine ex_wx ?_ _ | refine ex_drew ?_ | refine ex_alloc ?_ _)) ?_))
              refine wpSeq_nil ?_
              go_wp2
              go_ret
              exact post_mk rfl (by (try show Ex _ _); with_reducible repeat (first | exact ex_refl _ | assumption | refine ex_drewL ?_ | refine ex_appR ?_ _ | refine ex_wx ?_ _ | refine ex_drew ?_ | refine ex_alloc ?_ _))
        · have d1 : ¬ (s.size : Int) < 1 := by omega
          have d2 : ¬ 200 < (s.size : Int) := by omega
          have d3 : ¬ 1000 < (t.size : Int) := by omega
          have d1t := decide_eq_false d1
          have d2t := decide_eq_false d2
          have d3t := decide_eq_false d3
          by_cases h0 : k = 0
          · have hk2 := Lib.hid (HK2.out (by omega))
            have h0' : ¬ (0 : Int) < k := by omega
            have h0t := decide_eq_false h0'
            have h0n : decide (0 < k) = false := decide_eq_false (by omega)
            clear c1 HBk HK2 HP hz2 h0 h2
            go_wp2
            refine wp_region_seq [(0, true), (1, true), (2, true), (3, true), (4, true), (5, true), (6, true), (7, true), (8, true), (9, true), (10, true), (11, true), (12, true), (13, true), (14, true), (15, true), (16, true), (17, true), (18, true), (19, true), (20, true), (21, true), (22, true), (23, true), (24, true), (25, true), (26, true), (27, true), (28, true), (29, true), (30, true), (31, true), (32, true), (33, true), (34, true), (35, true), (36, true), (37, true), (38, true), (39, true), (40, true), (41, true), (42, true), (43, true), (44, true), (45, true), (46, true)] (by kernel_rfl) (by kernel_rfl) (fun _ _ d _ _ h => by cases d <;> exact h) ?_
            simp only [List.map_cons, List.map_nil, nth]
            repeat (first | ((with_reducible refine wpSeq_look ?_); go_big_quiet_step (fail); (with_reducible refine wpQuiet_nil ?_)) | ((with_reducible refine wpSeq_effF ?_ ?_); (focus rfl); go_simp) | ((with_reducible refine wpSeq_eff ?_ ?_); (focus rfl); (try dsimp only); go_wp2_with (fail); refine mixQ_mk (by (try show Ex _ _); with_reducible repeat (first | exact ex_refl _ | assumption | refine ex_drewL ?_ | refine ex_appR ?_ _ | refine ex_wx ?_ _ | refine ex_drew ?_ | refine ex_alloc ?_ _)) ?_))
            refine wpSeq_nil ?_
            go_wp2
            refine ⟨⟨k + 1, by omega, by go_num, hk2, (by (try show Ex _ _); with_reducible repeat (first | exact ex_refl _ | assumption | refine ex_drewL ?_ | refine ex_appR ?_ _ | refine ex_wx ?_ _ | refine ex_drew ?_ | refine ex_alloc ?_ _))⟩, by simp [intOf]; omega⟩
          · have h0' : (0 : Int) < k := by omega
            obtain ⟨r, hr, r5⟩ := HP.out (by omega)
            subst hr
            have h0t := decide_eq_true h0'
            have h0v : (((r : Int) + 1) == 200) = false := beq_eq_false_iff_ne.2 (by omega)
            have h0u : decide ((0 : Int) < (r : Int) + 1) = true := decide_eq_true (by omega)
            cases bz
            · obtain rfl := HBk.out (.inr (.inr (.inr (.inl ⟨by omega, rfl⟩))))
              clear c1 HBk HK2 HP h2
              go_wp2
              refine wp_region_seq [(0, true), (1, true), (2, true), (3, true), (4, true), (5, true), (6, true), (7, true), (8, true), (9, true), (10, true), (11, true), (12, true), (13, true), (14, true), (15, true), (16, true), (17, true), (18, true), (19, true), (20, true), (21, true), (22, true), (23, true), (24, true), (25, true), (26, true), (27, true), (28, true), (29, true), (30, true), (31, true), (32, true), (33, true), (34, true), (35, true), (36, true), (37, true), (38, true), (39, true), (40, true), (41, true), (42, true), (43, true), (44, true), (45, true), (46, true)] (by kernel_rfl) (by kernel_rfl) (fun _ _ d _ _ h => by cases d <;> exact h) ?_
              simp only [List.map_cons, List.map_nil, nth]
              repeat (first | ((with_reducible refine wpSeq_look ?_); go_big_quiet_step (fail); (with_reducible refine wpQuiet_nil ?_)) | ((with_reducible refine wpSeq_effF ?_ ?_); (focus rfl); go_simp) | ((with_reducible refine wpSeq_eff ?_ ?_); (focus rfl); (try dsimp only); go_wp2_with (fail); refine mixQ_mk (by (try show Ex _ _); with_reducible repeat (first | exact ex_refl _ | assumption | refine ex_drewL ?_ | refine ex_appR ?_ _ | refine ex_wx ?_ _ | refine ex_drew ?_ | refine ex_alloc ?_ _)) ?_))
              refine wpSeq_nil ?_
              go_wp2
              go_ret
              exact post_mk rfl (by (try show Ex _ _); with_reducible repeat (first | exact ex_refl _ | assumption | refine ex_drewL ?_ | refine ex_appR ?_ _ | refine ex_wx ?_ _ | refine ex_drew ?_ | refine ex_alloc ?_ _))
            · have hk2 := Lib.hid (HK2.out (by rintro (h | h | h | ⟨_, h⟩ | h) <;> first | omega | cases h))
              clear c1 HBk HK2 HP h2 h0
              go_wp2
              refine wp_region_seq [(0, true), (1, true), (2, true), (3, true), (4, true), (5, true), (6, true), (7, true), (8, true), (9, true), (10, true), (11, true), (12, true), (13, true), (14, true), (15, true), (16, true), (17, true), (18, true), (19, true), (20, true), (21, true), (22, true), (23, true), (24, true), (25, true), (26, true), (27, true), (28, true), (29, true), (30, true), (31, true), (32, true), (33, true), (34, true), (35, true), (36, true), (37, true), (38, true), (39, true), (40, true), (41, true), (42, true), (43, true), (44, true), (45, true), (46, true)] (by kernel_rfl) (by kernel_rfl) (fun _ _ d _ _ h => by cases d <;> exact h) ?_
              simp only [List.map_cons, List.map_nil, nth]
              repeat (first | ((with_reducible refine wpSeq_look ?_); go_big_quiet_step (fail); (with_reducible refine wpQuiet_nil ?_)) | ((with_reducible refine wpSeq_effF ?_ ?_); (focus rfl); go_simp) | ((with_reducible refine wpSeq_eff ?_ ?_); (focus rfl); (try dsimp only); go_wp2_with (fail); refine mixQ_mk (by (try show Ex _ _); with_reducible repeat (first | exact ex_refl _ | assumption | refine ex_drewL ?_ | refine ex_appR ?_ _ | refine ex_wx ?_ _ | refine ex_drew ?_ | refine ex_alloc ?_ _)) ?_))
              refine wpSeq_nil ?_
              go_wp2
              refine ⟨⟨r + 1 + 1, by omega, by go_num, hk2, (by (try show Ex _ _); with_reducible repeat (first | exact ex_refl _ | assumption | refine ex_drewL ?_ | refine ex_appR ?_ _ | refine ex_wx ?_ _ | refine ex_drew ?_ | refine ex_alloc ?_ _))⟩, by simp [intOf]; omega⟩
    · obtain rfl : k = n := by omega
      obtain rfl := HO.out HK.out
      clear hlt hk HB HS
      go_wp2
      go_ret
      exact post_mk rfl (by (try show Ex _ _); with_reducible repeat (first | exact ex_refl _ | assumption | refine ex_drewL ?_ | refine ex_appR ?_ _ | refine ex_wx ?_ _ | refine ex_drew ?_ | refine ex_alloc ?_ _))
end Go.Proofs.YtcdocklbpfdmeaaDoor
