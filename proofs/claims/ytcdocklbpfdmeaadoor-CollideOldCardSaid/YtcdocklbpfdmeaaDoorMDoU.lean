import Derived.Test.YtcdocklbpfdmeaaDoorMDoA
import Derived.Test.YtcdocklbpfdmeaaDoorMGoto

/- Collide's document: Includes, Include, SameClash. -/
set_option linter.unusedSimpArgs false
set_option linter.unusedVariables false
set_option linter.unnecessarySimpa false
set_option maxRecDepth 20000
namespace Go.Proofs.YtcdocklbpfdmeaaDoor
open Go.RowKit
def PostBR (w : World) (r : Bool × Cl) (e : Ending) (w' : World) : Prop := ∃ cv c', e = .returned (.tuple #[.bool r.1, cv]) ∧ Ex w w' ∧ ClR w' cv c' ∧ (r.1 = true → c' = r.2)
set_option maxHeartbeats 1000000 in
theorem dincludes_in (W : Nat) (hW : W ≤ 256) {b : List UInt8} (hb : b.length ≤ 90) {bv : Value} (l : List (List UInt8)) (la : Option Addr) (lc : Nat) (i : Nat) (path : List Dg) (pa : Option Addr) (pc : Nat) (w : World)
    (hN : l.length ≤ 1024) (hi : i < l.length) (hlc : l.length ≤ lc) (hlm : lc ≤ maxLen) (hls : SlLs w la l) (hsh : ShortL l) (hbv : SlT w bv b) (hpc : path.length ≤ pc) (hpm : pc ≤ maxLen) (hpath : SlD w pa path) :
    Calls Tryd.prog 30 #[I W, .slice la l.length lc, .agg #[I i, bv, .slice pa path.length pc]] w (PostBR w (inclC W l i b path)) := by
  have HWd : Hid (∀ w', Calls Tryd.prog 25 #[I W] w' (Post w' (.bool true))) := Lib.hid fun w' => by
    have := refwide_any W w'
    rwa [show wideB W = true from decide_eq_true (by omega)] at this
  have HC : Hid (∀ w' p, Ex w w' → w.heap.size ≤ p → Cd w' p none → Calls Tryd.prog 72 #[I W, .slice la l.length lc, I i, bv, .slice pa path.length pc, .pointer (some ⟨p, 0, none⟩)] w' (PostDO p w' (climbC (sumW W) l i b path none))) :=
    Lib.hid fun w' p k hp hk => dclimb_any W hW hp hb hbv l.length l la lc i path pa pc none w' rfl (by omega) hN hlc hlm hls hsh hi hpc hpm hpath k hk
  have HR : Hid (∀ w', Ex w w' → Calls Tryd.prog 44 #[I W, .slice la l.length lc] w' (Post w' (.agg (rowB 32 (dF (rootC (sumW W) l)))))) := Lib.hid fun w' k => by
    have := refrootN_any W hW l.length l la lc w' rfl hN hlc hlm (hls.ex k) hsh
    rwa [← rootC_top] at this
  have hr : inclC W l i b path = outC (rootC (sumW W) l) (climbC (sumW W) l i b path none) := by
    unfold inclC
    rw [if_pos ⟨hN, by omega, by omega, by omega, by omega⟩, Int.toNat_natCast, Int.toNat_natCast]
  rw [hr]
  clear hr
  have t1 : decide ((1024 : Int) < l.length) = false := decide_eq_false (by omega)
  have t2 : decide ((i : Int) < 0) = false := decide_eq_false (by omega)
  have t3 : decide ((l.length : Int) ≤ i) = false := decide_eq_false (by omega)
  have t4 : decide (l.length ≤ i) = false := decide_eq_false (by omega)
  have t5 : decide (1024 < l.length) = false := decide_eq_false (by omega)
  obtain ⟨ba, bc, rfl, _, _, _⟩ := hbv.out
  generalize climbC (sumW W) l i b path none = o at HC ⊢
  generalize rootC (sumW W) l = R at HR ⊢
  clear hls hbv hpath
  generalize l.length = n at *
  generalize path.length = pn at *
  cases o with
  | none =>
    have hb : outC R none = (false, none) := rfl
    rw [hb]
    clear hb
    have HC2 : Hid (∀ w' p, Ex w w' → w.heap.size ≤ p → Cd w' p none → Calls Tryd.prog 72 _ w' (fun e w2 => ∃ x c', e = .returned (.tuple #[.agg (rowB 32 (dF x)), .bool false]) ∧ FrP p w' w2 ∧ Cd w2 p c' ∧ ∀ y, none = some y → y = (x, c'))) := HC
    go_enter Tryd.func30, Tryd.ntmps30
    go_wp2_with (first | (go_at_call 25; (with_reducible refine (HWd.out _).mono ?_); rintro e w2 ⟨rfl, X, rfl⟩) | (go_at_call 72; (with_reducible refine (HC2.out _ _ (by (try show Ex _ _); repeat (first | (with_reducible exact ex_refl _) | (with_reducible assumption) | (with_reducible refine ex_drewL ?_) | (with_reducible refine ex_appR ?_ _) | (with_reducible refine ex_wx ?_ _) | (with_reducible refine ex_drew ?_) | (with_reducible refine ex_alloc ?_ _))) (by omega) (Cd.new' (by simp [go_sem]))).mono ?_); rintro e w2 ⟨x, c', rfl, F2, K2, _⟩; have k2 : Ex w w2 := F2.exA (by (try show Ex _ _); repeat (first | (with_reducible exact ex_refl _) | (with_reducible assumption) | (with_reducible refine ex_drewL ?_) | (with_reducible refine ex_appR ?_ _) | (with_reducible refine ex_wx ?_ _) | (with_reducible refine ex_drew ?_) | (with_reducible refine ex_alloc ?_ _))) (by omega); obtain ⟨cv, hcb, hcr⟩ := K2.out; obtain ⟨n2, f2⟩ := block_cellF (o := 0) (v := cv) hcb rfl; have z2 := cell_lt n2; replace F2 := Lib.hid F2; replace hcr := Lib.hid hcr; replace hcb := Lib.hid hcb; replace K2 := Lib.hid K2))
    refine wp_region_seq [(0, true), (1, true), (2, true), (3, true), (4, true), (8, true), (5, false), (6, true), (7, true), (9, true), (10, true)] (by kernel_rfl) (by kernel_rfl) (fun _ _ d _ _ h => by cases d <;> exact h) ?_
    simp only [List.map_cons, List.map_nil, nth]
    repeat (first | ((with_reducible refine wpSeq_look ?_); go_big_quiet_step (fail); (with_reducible refine wpQuiet_nil ?_)) | ((with_reducible refine wpSeq_effF ?_ ?_); (focus rfl); go_simp) | ((with_reducible refine wpSeq_eff ?_ ?_); (focus rfl); (try dsimp only); go_wp2_with (fail); refine mixQ_mk (by (try show Ex _ _); repeat (first | (with_reducible exact ex_refl _) | (with_reducible assumption) | (with_reducible refine ex_drewL ?_) | (with_reducible refine ex_appR ?_ _) | (with_reducible refine ex_wx ?_ _) | (with_reducible refine ex_drew ?_) | (with_reducible refine ex_alloc ?_ _))) ?_))
    refine wpSeq_nil ?_
    go_wp2
    go_ret2
    exact ⟨cv, c', rfl, ex_trans k2 (by (try show Ex _ _); repeat (first | (with_reducible exact ex_refl _) | (with_reducible assumption) | (with_reducible refine ex_drewL ?_) | (with_reducible refine ex_appR ?_ _) | (with_reducible refine ex_wx ?_ _) | (with_reducible refine ex_drew ?_) | (with_reducible refine ex_alloc ?_ _))), hcr.out.ex (by (try show Ex _ _); repeat (first | (with_reducible exact ex_refl _) | (with_reducible assumption) | (with_reducible refine ex_drewL ?_) | (with_reducible refine ex_appR ?_ _) | (with_reducible refine ex_wx ?_ _) | (with_reducible refine ex_drew ?_) | (with_reducible refine ex_alloc ?_ _))), fun h => by cases h⟩
  | some xc =>
    obtain ⟨x, c1⟩ := xc
    have HC2 : Hid (∀ w' p, Ex w w' → w.heap.size ≤ p → Cd w' p none → Calls Tryd.prog 72 #[I W, .slice la n lc, I i, .slice ba b.length bc, .slice pa pn pc, .pointer (some ⟨p, 0, none⟩)] w' (fun e w2 => e = .returned (.tuple #[.agg (rowB 32 (dF x)), .bool true]) ∧ FrP p w' w2 ∧ Cd w2 p c1)) := Lib.hid fun w' p k1 k2 k3 => (HC.out w' p k1 k2 k3).mono fun e w2 ⟨x', c', h1, h2, h3, h4⟩ => by
      have := h4 _ rfl
      cases this
      exact ⟨h1, h2, h3⟩
    have he := eqD x R
    have hb : outC R (some (x, c1)) = (decide (x = R), c1) := rfl
    rw [hb]
    generalize decide (x = R) = bb at he ⊢
    clear hb HC
    go_enter Tryd.func30, Tryd.ntmps30
    go_wp2_with (first | (go_at_call 25; (with_reducible refine (HWd.out _).mono ?_); rintro e w2 ⟨rfl, X, rfl⟩) | (go_at_call 72; (with_reducible refine (HC2.out _ _ (by (try show Ex _ _); repeat (first | (with_reducible exact ex_refl _) | (with_reducible assumption) | (with_reducible refine ex_drewL ?_) | (with_reducible refine ex_appR ?_ _) | (with_reducible refine ex_wx ?_ _) | (with_reducible refine ex_drew ?_) | (with_reducible refine ex_alloc ?_ _))) (by omega) (Cd.new' (by simp [go_sem]))).mono ?_); rintro e w2 ⟨rfl, F2, K2⟩; have k2 : Ex w w2 := F2.exA (by (try show Ex _ _); repeat (first | (with_reducible exact ex_refl _) | (with_reducible assumption) | (with_reducible refine ex_drewL ?_) | (with_reducible refine ex_appR ?_ _) | (with_reducible refine ex_wx ?_ _) | (with_reducible refine ex_drew ?_) | (with_reducible refine ex_alloc ?_ _))) (by omega); obtain ⟨cv, hcb, hcr⟩ := K2.out; obtain ⟨n2, f2⟩ := block_cellF (o := 0) (v := cv) hcb rfl; have z2 := cell_lt n2; replace F2 := Lib.hid F2; replace hcr := Lib.hid hcr; replace hcb := Lib.hid hcb; replace K2 := Lib.hid K2))
    refine wp_region_seq [(0, true), (1, true), (2, true), (3, true), (4, true), (8, true), (5, false), (6, true), (7, true), (9, true), (10, true)] (by kernel_rfl) (by kernel_rfl) (fun _ _ d _ _ h => by cases d <;> exact h) ?_
    simp only [List.map_cons, List.map_nil, nth]
    repeat (first | ((with_reducible refine wpSeq_look ?_); go_big_quiet_step (fail); (with_reducible refine wpQuiet_nil ?_)) | ((with_reducible refine wpSeq_effF ?_ ?_); (focus rfl); go_simp) | ((with_reducible refine wpSeq_eff ?_ ?_); (focus rfl); (try dsimp only); go_wp2_with ((go_at_call 44; (with_reducible refine (HR.out _ (ex_trans k2 (by (try show Ex _ _); repeat (first | (with_reducible exact ex_refl _) | (with_reducible assumption) | (with_reducible refine ex_drewL ?_) | (with_reducible refine ex_appR ?_ _) | (with_reducible refine ex_wx ?_ _) | (with_reducible refine ex_drew ?_) | (with_reducible refine ex_alloc ?_ _))))).mono ?_); rintro e w3 ⟨rfl, X3, rfl⟩)); refine mixQ_mk (by (try show Ex _ _); repeat (first | (with_reducible exact ex_refl _) | (with_reducible assumption) | (with_reducible refine ex_drewL ?_) | (with_reducible refine ex_appR ?_ _) | (with_reducible refine ex_wx ?_ _) | (with_reducible refine ex_drew ?_) | (with_reducible refine ex_alloc ?_ _))) ?_))
    refine wpSeq_nil ?_
    go_wp2
    go_ret2
    exact ⟨cv, c1, rfl, ex_trans k2 (by (try show Ex _ _); repeat (first | (with_reducible exact ex_refl _) | (with_reducible assumption) | (with_reducible refine ex_drewL ?_) | (with_reducible refine ex_appR ?_ _) | (with_reducible refine ex_wx ?_ _) | (with_reducible refine ex_drew ?_) | (with_reducible refine ex_alloc ?_ _))), hcr.out.ex (by (try show Ex _ _); repeat (first | (with_reducible exact ex_refl _) | (with_reducible assumption) | (with_reducible refine ex_drewL ?_) | (with_reducible refine ex_appR ?_ _) | (with_reducible refine ex_wx ?_ _) | (with_reducible refine ex_drew ?_) | (with_reducible refine ex_alloc ?_ _))), fun _ => rfl⟩
set_option maxHeartbeats 1000000 in
theorem dincludes_any (W : Int) {b : List UInt8} (hb : b.length ≤ 90) {bv : Value} (l : List (List UInt8)) (la : Option Addr) (lc : Nat) (i : Int) (path : List Dg) (pa : Option Addr) (pc : Nat) (w : World)
    (hlc : l.length ≤ lc) (hlm : lc ≤ maxLen) (hls : SlLs w la l) (hsh : ShortL l) (hbv : SlT w bv b) (hpc : path.length ≤ pc) (hpm : pc ≤ maxLen) (hpath : SlD w pa path) :
    Calls Tryd.prog 30 #[I W, .slice la l.length lc, .agg #[I i, bv, .slice pa path.length pc]] w (PostBR w (inclC W l i b path)) := by
  by_cases hg : l.length ≤ 1024 ∧ 0 ≤ i ∧ i < l.length ∧ 0 ≤ W ∧ W ≤ 256
  · obtain ⟨h1, h2, h3, h4, h5⟩ := hg
    obtain ⟨N, rfl⟩ : ∃ N : Nat, W = N := ⟨W.toNat, by omega⟩
    obtain ⟨q, rfl⟩ : ∃ q : Nat, i = q := ⟨i.toNat, by omega⟩
    exact dincludes_in N (by omega) hb l la lc q path pa pc w h1 (by omega) hlc hlm hls hsh hbv hpc hpm hpath
  · have he : inclC W l i b path = (false, none) := by unfold inclC; rw [if_neg hg]
    rw [he]
    clear he hls hpath
    obtain ⟨ba, bc, rfl, _, _, _⟩ := hbv.out
    have HWd := Lib.hid fun w' => refwide_any W w'
    obtain ⟨wb, hwb⟩ : ∃ wb, wideB W = wb := ⟨_, rfl⟩
    have hg2 : ¬ (l.length ≤ 1024 ∧ 0 ≤ i ∧ i < l.length ∧ wb = true) := by
      rintro ⟨h1, h2, h3, h4⟩
      rw [← hwb] at h4
      exact hg ⟨h1, h2, h3, of_decide_eq_true h4⟩
    rw [hwb] at HWd
    generalize l.length = n at *
    generalize path.length = pn at *
    clear hwb hg hbv hsh
    cases wb with
    | false =>
      have HWd2 : Hid (∀ w', Calls Tryd.prog 25 #[I W] w' (Post w' (.bool false))) := HWd
      go_enter Tryd.func30, Tryd.ntmps30
      go_wp2_with (go_at_call 25; (with_reducible refine (HWd2.out _).mono ?_); rintro e w2 ⟨rfl, X, rfl⟩)
      go_ret2
      exact ⟨_, none, rfl, (by (try show Ex _ _); repeat (first | (with_reducible exact ex_refl _) | (with_reducible assumption) | (with_reducible refine ex_drewL ?_) | (with_reducible refine ex_appR ?_ _) | (with_reducible refine ex_wx ?_ _) | (with_reducible refine ex_drew ?_) | (with_reducible refine ex_alloc ?_ _))), rfl, fun _ => rfl⟩
    | true =>
      have HWd2 : Hid (∀ w', Calls Tryd.prog 25 #[I W] w' (Post w' (.bool true))) := HWd
      by_cases h1 : n ≤ 1024
      · have t1 : decide ((1024 : Int) < n) = false := decide_eq_false (by omega)
        by_cases h2 : 0 ≤ i
        · have t2 : decide (i < 0) = false := decide_eq_false (by omega)
          have t3 : decide ((n : Int) ≤ i) = true := decide_eq_true (by have := hg2; simp only [and_true] at this; omega)
          clear hg2
          go_enter Tryd.func30, Tryd.ntmps30
          go_wp2_with (go_at_call 25; (with_reducible refine (HWd2.out _).mono ?_); rintro e w2 ⟨rfl, X, rfl⟩)
          go_ret2
          exact ⟨_, none, rfl, (by (try show Ex _ _); repeat (first | (with_reducible exact ex_refl _) | (with_reducible assumption) | (with_reducible refine ex_drewL ?_) | (with_reducible refine ex_appR ?_ _) | (with_reducible refine ex_wx ?_ _) | (with_reducible refine ex_drew ?_) | (with_reducible refine ex_alloc ?_ _))), rfl, fun _ => rfl⟩
        · have t2 : decide (i < 0) = true := decide_eq_true (by omega)
          clear hg2
          go_enter Tryd.func30, Tryd.ntmps30
          go_wp2_with (go_at_call 25; (with_reducible refine (HWd2.out _).mono ?_); rintro e w2 ⟨rfl, X, rfl⟩)
          go_ret2
          exact ⟨_, none, rfl, (by (try show Ex _ _); repeat (first | (with_reducible exact ex_refl _) | (with_reducible assumption) | (with_reducible refine ex_drewL ?_) | (with_reducible refine ex_appR ?_ _) | (with_reducible refine ex_wx ?_ _) | (with_reducible refine ex_drew ?_) | (with_reducible refine ex_alloc ?_ _))), rfl, fun _ => rfl⟩
      · have t1 : decide ((1024 : Int) < n) = true := decide_eq_true (by omega)
        clear hg2
        go_enter Tryd.func30, Tryd.ntmps30
        go_wp2_with (go_at_call 25; (with_reducible refine (HWd2.out _).mono ?_); rintro e w2 ⟨rfl, X, rfl⟩)
        go_ret2
        exact ⟨_, none, rfl, (by (try show Ex _ _); repeat (first | (with_reducible exact ex_refl _) | (with_reducible assumption) | (with_reducible refine ex_drewL ?_) | (with_reducible refine ex_appR ?_ _) | (with_reducible refine ex_wx ?_ _) | (with_reducible refine ex_drew ?_) | (with_reducible refine ex_alloc ?_ _))), rfl, fun _ => rfl⟩
theorem sameClash_any {sa sb sc sd : Value} {a b : List UInt8 × List UInt8} {w : World} (h1 : SlT w sa a.1) (h2 : SlT w sb a.2) (h3 : SlT w sc b.1) (h4 : SlT w sd b.2) :
    Calls Tryd.prog 34 #[.agg #[sa, sb], .agg #[sc, sd]] w (Post w (.bool (decide (a = b)))) := by
  have HA := Lib.hid fun w' (k : Ex w w') => sameB_any (h1.ex k) (h3.ex k)
  have HB := Lib.hid fun w' (k : Ex w w') => sameB_any (h2.ex k) (h4.ex k)
  have e : decide (a = b) = (decide (a.1 = b.1) && decide (a.2 = b.2)) := by
    obtain ⟨a1, a2⟩ := a
    obtain ⟨b1, b2⟩ := b
    rw [Bool.eq_iff_iff]
    simp
  rw [e]
  generalize decide (a.1 = b.1) = x at HA ⊢
  generalize decide (a.2 = b.2) = y at HB ⊢
  obtain ⟨_, _, rfl, _⟩ := h1.out
  obtain ⟨_, _, rfl, _⟩ := h2.out
  obtain ⟨_, _, rfl, _⟩ := h3.out
  obtain ⟨_, _, rfl, _⟩ := h4.out
  clear h1 h2 h3 h4 e
  cases x with
  | false =>
    have HA2 : Hid (∀ w', Ex w w' → Calls Tryd.prog 71 _ w' (Post w' (.bool false))) := HA
    go_enter Tryd.func34, Tryd.ntmps34
    go_wp2_with (go_at_call 71; (with_reducible refine (HA2.out _ (by (try show Ex _ _); repeat (first | (with_reducible exact ex_refl _) | (with_reducible assumption) | (with_reducible refine ex_drewL ?_) | (with_reducible refine ex_appR ?_ _) | (with_reducible refine ex_wx ?_ _) | (with_reducible refine ex_drew ?_) | (with_reducible refine ex_alloc ?_ _)))).mono ?_); rintro e w2 ⟨rfl, X, rfl⟩)
    go_ret
    exact post_mk rfl (by (try show Ex _ _); repeat (first | (with_reducible exact ex_refl _) | (with_reducible assumption) | (with_reducible refine ex_drewL ?_) | (with_reducible refine ex_appR ?_ _) | (with_reducible refine ex_wx ?_ _) | (with_reducible refine ex_drew ?_) | (with_reducible refine ex_alloc ?_ _)))
  | true =>
    have HA2 : Hid (∀ w', Ex w w' → Calls Tryd.prog 71 _ w' (Post w' (.bool true))) := HA
    have tok : True := trivial
    go_enter Tryd.func34, Tryd.ntmps34
    go_wp2_with (first | (go_at_call 71; have _t := tok; clear tok; (with_reducible refine (HA2.out _ (by (try show Ex _ _); repeat (first | (with_reducible exact ex_refl _) | (with_reducible assumption) | (with_reducible refine ex_drewL ?_) | (with_reducible refine ex_appR ?_ _) | (with_reducible refine ex_wx ?_ _) | (with_reducible refine ex_drew ?_) | (with_reducible refine ex_alloc ?_ _)))).mono ?_); rintro e w2 ⟨rfl, X, rfl⟩) | (go_at_call 71; (with_reducible refine (HB.out _ (by (try show Ex _ _); repeat (first | (with_reducible exact ex_refl _) | (with_reducible assumption) | (with_reducible refine ex_drewL ?_) | (with_reducible refine ex_appR ?_ _) | (with_reducible refine ex_wx ?_ _) | (with_reducible refine ex_drew ?_) | (with_reducible refine ex_alloc ?_ _)))).mono ?_); rintro e w2 ⟨rfl, X, rfl⟩))
    go_ret
    exact post_mk rfl (by (try show Ex _ _); repeat (first | (with_reducible exact ex_refl _) | (with_reducible assumption) | (with_reducible refine ex_drewL ?_) | (with_reducible refine ex_appR ?_ _) | (with_reducible refine ex_wx ?_ _) | (with_reducible refine ex_drew ?_) | (with_reducible refine ex_alloc ?_ _)))
end Go.Proofs.YtcdocklbpfdmeaaDoor

/- Collide's document: Include. -/
set_option linter.unusedSimpArgs false
set_option linter.unusedVariables false
set_option linter.unnecessarySimpa false
set_option maxRecDepth 20000
namespace Go.Proofs.YtcdocklbpfdmeaaDoor
open Go.RowKit
def PostClT (w : World) (o : Cl) (e : Ending) (w' : World) : Prop := ∃ sa sb, e = .returned (.tuple #[.agg #[sa, sb], .bool o.isSome]) ∧ Ex w w' ∧ ClS w' sa sb o
theorem clr_cells {w : World} {v : Value} {x : List UInt8 × List UInt8} (h : ClR w v (some x)) : ∃ g cap sa sb, v = .slice (some ⟨g, 0, none⟩) 1 cap ∧ 1 ≤ cap ∧ cap ≤ maxLen ∧ g < w.heap.size ∧ cellsN w g 0 2 = some #[sa, sb] ∧ OwnU w sa x.1 ∧ OwnU w sb x.2 := by
  obtain ⟨sa, sb, h1, h2, h3⟩ := h
  obtain ⟨g, cap, cur, rfl, _, hg, h4, h5, h6, h7⟩ := own_block h1 (by omega) (by omega)
  refine ⟨g, cap, sa, sb, rfl, h4, h5, (Array.getElem?_eq_some_iff.1 hg).1, cellsN_some.2 ⟨rfl, fun j hj => ?_⟩, h2, h3⟩
  rw [Nat.zero_add, cell_of_row w g j _ _ _ hg]
  have : (cur.toList.take (1 * 2))[j]? = [sa, sb][j]? := by rw [h7]
  rw [List.getElem?_take_of_lt (by omega), Array.getElem?_toList] at this
  rw [this, ← List.getElem?_toArray]
theorem incl_facts {w w2 : World} {v0 v1 v2 : Value} {g o : Nat} {xv : Value} (hg : g < w.heap.size) (hx : w.cell? ⟨g, o, none⟩ = some xv) (k : Ex ((w.alloc (.cells #[v0, v1, v2] 67)).alloc (.cells #[.slice none 0 0, .slice none 0 0] 37)) w2) :
    w2.cell? ⟨w.heap.size, 0, none⟩ = some v0 ∧ w2.cell? ⟨w.heap.size, 1, none⟩ = some v1 ∧ w.heap.size < w2.heap.size ∧ w2.cell? ⟨g, o, none⟩ = some xv ∧ g < w2.heap.size ∧ cellsN w2 (w.heap.size + 1) 0 2 = some #[.slice none 0 0, .slice none 0 0] ∧ frozenN w2 (w.heap.size + 1) 0 2 = false ∧ w.heap.size + 1 < w2.heap.size ∧
      ∀ sa sb, cellsN (w2.setCells (w.heap.size + 1) 0 [sa, sb]) (w.heap.size + 1) 0 2 = some #[sa, sb] ∧ NoU w2 (fun b => b = w.heap.size + 1) := by
  have b0 := ex_block (ex_trans (ex_alloc (ex_refl _) _) k) (heap_alloc_new w (.cells #[v0, v1, v2] 67))
  have b1 := ex_block k (heap_alloc_new (w.alloc (.cells #[v0, v1, v2] 67)) _)
  rw [World.size_alloc] at b1
  have c := block_cellsF (n := 2) b1 rfl
  refine ⟨(block_cellF b0 rfl).1, (block_cellF b0 rfl).1, (Array.getElem?_eq_some_iff.1 b0).1, ?_, ?_, c.1, c.2.1, c.2.2, fun sa sb => ?_⟩
  · obtain ⟨X, hX⟩ : Ex w w2 := ex_trans (ex_alloc (ex_alloc (ex_refl _) _) _) k
    rw [hX, wx_cell w X _ hg]; exact hx
  · have := (Array.getElem?_eq_some_iff.1 b0).1; omega
  · have h6 := setCells_block (w.heap.size + 1) 37 (0, 0) [sa, sb] 0 w2 _ b1
    exact ⟨(block_cellsF (n := 2) h6 rfl).1, nou_type b1 (by decide)⟩
theorem post_zero {w w' : World} (k : Ex w w') : PostClT w none (.returned (.tuple #[.agg #[.slice none 0 0, .slice none 0 0], .bool false])) w' := ⟨_, _, rfl, k, rfl, rfl⟩
set_option maxHeartbeats 1000000 in
theorem dinclude_any (W : Int) {b : List UInt8} (hb : b.length ≤ 90) {bv : Value} (l : List (List UInt8)) (la : Option Addr) (lc : Nat) (i : Int) (path : List Dg) (pa : Option Addr) (pc : Nat) (w : World)
    (hlc : l.length ≤ lc) (hlm : lc ≤ maxLen) (hls : SlLs w la l) (hsh : ShortL l) (hbv : SlT w bv b) (hpc : path.length ≤ pc) (hpm : pc ≤ maxLen) (hpath : SlD w pa path) :
    Calls Tryd.prog 32 #[I W, .slice la l.length lc, .agg #[I i, bv, .slice pa path.length pc]] w (PostClT w (inclT W l i b path)) := by
  have HI : Hid (∀ w', Ex w w' → Calls Tryd.prog 30 #[I W, .slice la l.length lc, .agg #[I i, bv, .slice pa path.length pc]] w' (PostBR w' (inclC W l i b path))) :=
    Lib.hid fun w' k => dincludes_any W hb l la lc i path pa pc w' hlc hlm (hls.ex k) hsh (hbv.ex k) hpc hpm (hpath.ex k)
  have hit := incl_true (W := W) (l := l) (i := i) (b := b) (path := path)
  unfold inclT
  obtain ⟨ba, bc, rfl, _, _, _⟩ := hbv.out
  generalize inclC W l i b path = r at HI hit ⊢
  obtain ⟨r, c⟩ := r
  simp only at hit ⊢
  cases r with
  | false =>
    have HI2 : Hid (∀ w', Ex w w' → Calls Tryd.prog 30 #[I W, .slice la l.length lc, .agg #[I i, .slice ba b.length bc, .slice pa path.length pc]] w' (fun e w' => ∃ cv, e = .returned (.tuple #[.bool false, cv]) ∧ (∃ c', ClR w' cv c') ∧ ∃ X, w' = wx w' X)) := Lib.hid fun w' k => (HI.out w' k).mono fun e w2 ⟨cv, c', h1, h2, h3, h4⟩ => ⟨cv, h1, ⟨c', h3⟩, ⟨⟨[], w2.drawn⟩, by simp [wx]⟩⟩
    rw [Bool.false_and]
    have e0 : tellC false c = none := rfl
    rw [e0]
    clear hit hls hpath e0 HI2 hbv
    have HI3 : Hid (∀ w', Ex w w' → Calls Tryd.prog 30 #[I W, .slice la l.length lc, .agg #[I i, .slice ba b.length bc, .slice pa path.length pc]] w' (PostBR w' (false, c))) := HI
    go_enter Tryd.func32, Tryd.ntmps32
    go_wp2_with (go_at_call 30; (with_reducible refine (HI3.out _ (by (try show Ex _ _); repeat (first | (with_reducible exact ex_refl _) | (with_reducible assumption) | (with_reducible refine ex_drewL ?_) | (with_reducible refine ex_appR ?_ _) | (with_reducible refine ex_wx ?_ _) | (with_reducible refine ex_drew ?_) | (with_reducible refine ex_alloc ?_ _)))).mono ?_); rintro e w2 ⟨cv, c', rfl, ⟨X, rfl⟩, hc2, _⟩; dsimp only; replace hc2 := Lib.hid hc2)
    refine wp_region_seq [(0, true), (1, true), (2, true), (3, true), (4, true), (5, true), (6, true), (7, true), (8, true), (9, true), (10, false), (11, true), (12, true), (13, true), (14, true), (15, true), (16, true)] (by kernel_rfl) (by kernel_rfl) (fun _ _ d _ _ h => by cases d <;> exact h) ?_
    simp only [List.map_cons, List.map_nil, nth]
    repeat (first | ((with_reducible refine wpSeq_look ?_); go_big_quiet_step (fail); (with_reducible refine wpQuiet_nil ?_)) | ((with_reducible refine wpSeq_effF ?_ ?_); (focus rfl); go_simp) | ((with_reducible refine wpSeq_eff ?_ ?_); (focus rfl); (try dsimp only); go_wp2_with (fail); refine mixQ_mk (by (try show Ex _ _); repeat (first | (with_reducible exact ex_refl _) | (with_reducible assumption) | (with_reducible refine ex_drewL ?_) | (with_reducible refine ex_appR ?_ _) | (with_reducible refine ex_wx ?_ _) | (with_reducible refine ex_drew ?_) | (with_reducible refine ex_alloc ?_ _))) ?_))
    refine wpSeq_nil ?_
    go_wp2
    exact ret_rowV (cs := #[.slice none 0 0, .slice none 0 0]) Tryd.results32 Tryd.underlying37 rfl info_clash rfl (by simp [go_sem]) rfl rfl (post_zero (by (try show Ex _ _); repeat (first | (with_reducible exact ex_refl _) | (with_reducible assumption) | (with_reducible refine ex_drewL ?_) | (with_reducible refine ex_appR ?_ _) | (with_reducible refine ex_wx ?_ _) | (with_reducible refine ex_drew ?_) | (with_reducible refine ex_alloc ?_ _))))
  | true =>
    obtain ⟨hl1, hi1, hi2, hw1, hw2⟩ := hit rfl
    obtain ⟨q, rfl⟩ : ∃ q : Nat, i = q := ⟨i.toNat, by omega⟩
    obtain ⟨g, off, rfl, hg, hcell⟩ := hls.pos (by omega)
    obtain ⟨xv, hx1, hx2⟩ := hcell q _ (List.getElem?_eq_getElem (show q < l.length by omega))
    have hgd : l.getD q [] = l[q]'(by omega) := by rw [List.getD_eq_getElem?_getD, List.getElem?_eq_getElem (show q < l.length by omega)]; rfl
    rw [Int.toNat_natCast, hgd]
    have HE : Hid (∀ w', Ex w w' → Calls Tryd.prog 71 #[.slice ba b.length bc, xv] w' (Post w' (.bool (decide (b = l[q]'(by omega)))))) := Lib.hid fun w' k => sameB_any (hbv.ex k) (hx2.ex k)
    have HI2 : Hid (∀ w', Ex w w' → Calls Tryd.prog 30 #[I W, .slice (some ⟨g, off, none⟩) l.length lc, .agg #[I q, .slice ba b.length bc, .slice pa path.length pc]] w' (fun e w2 => ∃ cv, e = .returned (.tuple #[.bool true, cv]) ∧ Ex w' w2 ∧ ClR w2 cv c)) := Lib.hid fun w' k => (HI.out w' k).mono fun e w2 ⟨cv, c', h1, h2, h3, h4⟩ => ⟨cv, h1, h2, by have := h4 rfl; subst this; exact h3⟩
    rw [Bool.true_and]
    generalize decide (b = l[q]'(by omega)) = bb at HE ⊢
    have hxo : xv.oneCell' = true := by obtain ⟨_, _, rfl, _⟩ := hx2.out; rfl
    clear hit hls hpath hcell hgd hx2 HI hbv
    generalize l.length = n at *
    generalize path.length = pn at *
    generalize b.length = bn' at *
    unfold maxLen at hlm
    cases bb with
    | true =>
      have HE2 : Hid (∀ w', Ex w w' → Calls Tryd.prog 71 #[.slice ba bn' bc, xv] w' (Post w' (.bool true))) := HE
      have e0 : tellC (!true) c = none := rfl
      rw [e0]
      go_enter Tryd.func32, Tryd.ntmps32
      go_wp2_with (go_at_call 30; (with_reducible refine (HI2.out _ (by (try show Ex _ _); repeat (first | (with_reducible exact ex_refl _) | (with_reducible assumption) | (with_reducible refine ex_drewL ?_) | (with_reducible refine ex_appR ?_ _) | (with_reducible refine ex_wx ?_ _) | (with_reducible refine ex_drew ?_) | (with_reducible refine ex_alloc ?_ _)))).mono ?_); rintro e w2 ⟨cv, rfl, ⟨X, rfl⟩, hc2⟩; dsimp only; replace hc2 := Lib.hid hc2)
      refine wp_region_seq [(0, true), (1, true), (2, true), (3, true), (4, true), (5, true), (6, true), (7, true), (8, true), (9, true), (10, false), (11, true), (12, true), (13, true), (14, true), (15, true), (16, true)] (by kernel_rfl) (by kernel_rfl) (fun _ _ d _ _ h => by cases d <;> exact h) ?_
      simp only [List.map_cons, List.map_nil, nth]
      repeat (first | ((with_reducible refine wpSeq_look ?_); go_big_quiet_step (fail); (with_reducible refine wpQuiet_nil ?_)) | ((with_reducible refine wpSeq_effF ?_ ?_); (focus rfl); go_simp) | ((with_reducible refine wpSeq_eff ?_ ?_); (focus rfl); (try dsimp only); go_wp2_with ((go_at_call 71; (with_reducible refine (HE2.out _ (by (try show Ex _ _); repeat (first | (with_reducible exact ex_refl _) | (with_reducible assumption) | (with_reducible refine ex_drewL ?_) | (with_reducible refine ex_appR ?_ _) | (with_reducible refine ex_wx ?_ _) | (with_reducible refine ex_drew ?_) | (with_reducible refine ex_alloc ?_ _)))).mono ?_); rintro e w3 ⟨rfl, X2, rfl⟩)); refine mixQ_mk (by (try show Ex _ _); repeat (first | (with_reducible exact ex_refl _) | (with_reducible assumption) | (with_reducible refine ex_drewL ?_) | (with_reducible refine ex_appR ?_ _) | (with_reducible refine ex_wx ?_ _) | (with_reducible refine ex_drew ?_) | (with_reducible refine ex_alloc ?_ _))) ?_))
      refine wpSeq_nil ?_
      go_wp2
      exact ret_rowV (cs := #[.slice none 0 0, .slice none 0 0]) Tryd.results32 Tryd.underlying37 rfl info_clash rfl (by simp [go_sem]) rfl rfl (post_zero (by (try show Ex _ _); repeat (first | (with_reducible exact ex_refl _) | (with_reducible assumption) | (with_reducible refine ex_drewL ?_) | (with_reducible refine ex_appR ?_ _) | (with_reducible refine ex_wx ?_ _) | (with_reducible refine ex_drew ?_) | (with_reducible refine ex_alloc ?_ _))))
    | false =>
      have HE2 : Hid (∀ w', Ex w w' → Calls Tryd.prog 71 #[.slice ba bn' bc, xv] w' (Post w' (.bool false))) := HE
      have e0 : tellC (!false) c = c := rfl
      rw [e0]
      cases c with
      | none =>
        have HI3 : Hid (∀ w', Ex w w' → Calls Tryd.prog 30 #[I W, .slice (some ⟨g, off, none⟩) n lc, .agg #[I q, .slice ba bn' bc, .slice pa pn pc]] w' (fun e w2 => ∃ cv, e = .returned (.tuple #[.bool true, cv]) ∧ Ex w' w2 ∧ cv = .slice none 0 0)) := HI2
        go_enter Tryd.func32, Tryd.ntmps32
        go_wp2_with (go_at_call 30; (with_reducible refine (HI3.out _ (by (try show Ex _ _); repeat (first | (with_reducible exact ex_refl _) | (with_reducible assumption) | (with_reducible refine ex_drewL ?_) | (with_reducible refine ex_appR ?_ _) | (with_reducible refine ex_wx ?_ _) | (with_reducible refine ex_drew ?_) | (with_reducible refine ex_alloc ?_ _)))).mono ?_); rintro e w2 ⟨cv, rfl, ⟨X, rfl⟩, rfl⟩; dsimp only)
        refine wp_region_seq [(0, true), (1, true), (2, true), (3, true), (4, true), (5, true), (6, true), (7, true), (8, true), (9, true), (10, false), (11, true), (12, true), (13, true), (14, true), (15, true), (16, true)] (by kernel_rfl) (by kernel_rfl) (fun _ _ d _ _ h => by cases d <;> exact h) ?_
        simp only [List.map_cons, List.map_nil, nth]
        repeat (first | ((with_reducible refine wpSeq_look ?_); go_big_quiet_step (fail); (with_reducible refine wpQuiet_nil ?_)) | ((with_reducible refine wpSeq_effF ?_ ?_); (focus rfl); go_simp) | ((with_reducible refine wpSeq_eff ?_ ?_); (focus rfl); (try dsimp only); go_wp2_with ((go_at_call 71; (with_reducible refine (HE2.out _ (by (try show Ex _ _); repeat (first | (with_reducible exact ex_refl _) | (with_reducible assumption) | (with_reducible refine ex_drewL ?_) | (with_reducible refine ex_appR ?_ _) | (with_reducible refine ex_wx ?_ _) | (with_reducible refine ex_drew ?_) | (with_reducible refine ex_alloc ?_ _)))).mono ?_); rintro e w3 ⟨rfl, X2, rfl⟩)); refine mixQ_mk (by (try show Ex _ _); repeat (first | (with_reducible exact ex_refl _) | (with_reducible assumption) | (with_reducible refine ex_drewL ?_) | (with_reducible refine ex_appR ?_ _) | (with_reducible refine ex_wx ?_ _) | (with_reducible refine ex_drew ?_) | (with_reducible refine ex_alloc ?_ _))) ?_))
        refine wpSeq_nil ?_
        go_wp2
        exact ret_rowV (cs := #[.slice none 0 0, .slice none 0 0]) Tryd.results32 Tryd.underlying37 rfl info_clash rfl (by simp [go_sem]) rfl rfl (post_zero (by (try show Ex _ _); repeat (first | (with_reducible exact ex_refl _) | (with_reducible assumption) | (with_reducible refine ex_drewL ?_) | (with_reducible refine ex_appR ?_ _) | (with_reducible refine ex_wx ?_ _) | (with_reducible refine ex_drew ?_) | (with_reducible refine ex_alloc ?_ _))))
      | some x =>
        have HB := Lib.hid fun w2 => incl_facts (w := w) (w2 := w2) (v0 := I q) (v1 := .slice ba bn' bc) (v2 := .slice pa pn pc) (g := g) (o := off + q) (xv := xv) hg hx1
        go_enter Tryd.func32, Tryd.ntmps32
        go_wp2_with (go_at_call 30; (with_reducible refine (HI2.out _ (by (try show Ex _ _); repeat (first | (with_reducible exact ex_refl _) | (with_reducible assumption) | (with_reducible refine ex_drewL ?_) | (with_reducible refine ex_appR ?_ _) | (with_reducible refine ex_wx ?_ _) | (with_reducible refine ex_drew ?_) | (with_reducible refine ex_alloc ?_ _)))).mono ?_); rintro e w2 ⟨cv, rfl, k2, hc2⟩; dsimp only; obtain ⟨gq, cap, sa, sb, rfl, hcap1, hcap2, hz2, hcl, hsa, hsb⟩ := clr_cells hc2; have o1 := ownu_one hsa; have o2 := ownu_one hsb; obtain ⟨f0, f1, fz, fx, fxz, f6, f7, f8, f9⟩ := HB.out w2 k2; obtain ⟨g9, u9⟩ := f9 sa sb; replace u9 := Lib.hid u9; clear f9; replace hsa := Lib.hid hsa; replace hsb := Lib.hid hsb; clear hc2; have kw2 : Ex w w2 := ex_trans (by (try show Ex _ _); repeat (first | (with_reducible exact ex_refl _) | (with_reducible assumption) | (with_reducible refine ex_drewL ?_) | (with_reducible refine ex_appR ?_ _) | (with_reducible refine ex_wx ?_ _) | (with_reducible refine ex_drew ?_) | (with_reducible refine ex_alloc ?_ _))) k2; replace k2 := Lib.hid k2)
        refine wp_region_seq [(0, true), (1, true), (2, true), (3, true), (4, true), (5, true), (6, true), (7, true), (8, true), (9, true), (10, false), (11, true), (12, true), (13, true), (14, true), (15, true), (16, true)] (by kernel_rfl) (by kernel_rfl) (fun _ _ d _ _ h => by cases d <;> exact h) ?_
        simp only [List.map_cons, List.map_nil, nth]
        repeat (first | ((with_reducible refine wpSeq_look ?_); go_big_quiet_step (fail); (with_reducible refine wpQuiet_nil ?_)) | ((with_reducible refine wpSeq_effF ?_ ?_); (focus rfl); go_simp) | ((with_reducible refine wpSeq_eff ?_ ?_); (focus rfl); (try dsimp only); go_wp2_with ((go_at_call 71; (with_reducible refine (HE2.out _ (ex_trans kw2 (by (try show Ex _ _); repeat (first | (with_reducible exact ex_refl _) | (with_reducible assumption) | (with_reducible refine ex_drewL ?_) | (with_reducible refine ex_appR ?_ _) | (with_reducible refine ex_wx ?_ _) | (with_reducible refine ex_drew ?_) | (with_reducible refine ex_alloc ?_ _))))).mono ?_); rintro e w3 ⟨rfl, X2, rfl⟩)); refine mixQ_mk (by (try show Ex _ _); repeat (first | (with_reducible exact ex_refl _) | (with_reducible assumption) | (with_reducible refine ex_drewL ?_) | (with_reducible refine ex_appR ?_ _) | (with_reducible refine ex_wx ?_ _) | (with_reducible refine ex_drew ?_) | (with_reducible refine ex_alloc ?_ _))) ?_))
        refine wpSeq_nil ?_
        go_wp2
        have kF := frm_sets (w := w2) (r := w.heap.size + 1) 0 [sa, sb]
        refine ret_rowV (cs := #[sa, sb]) Tryd.results32 Tryd.underlying37 rfl info_clash rfl (by simp [go_sem]; rw [if_pos f8]; exact g9) rfl rfl ⟨_, _, rfl, ex_wx (kF.exA kw2 (Nat.le_succ _)) _, (hsa.out.frm u9.out kF).ex (by (try show Ex _ _); repeat (first | (with_reducible exact ex_refl _) | (with_reducible assumption) | (with_reducible refine ex_drewL ?_) | (with_reducible refine ex_appR ?_ _) | (with_reducible refine ex_wx ?_ _) | (with_reducible refine ex_drew ?_) | (with_reducible refine ex_alloc ?_ _))), (hsb.out.frm u9.out kF).ex (by (try show Ex _ _); repeat (first | (with_reducible exact ex_refl _) | (with_reducible assumption) | (with_reducible refine ex_drewL ?_) | (with_reducible refine ex_appR ?_ _) | (with_reducible refine ex_wx ?_ _) | (with_reducible refine ex_drew ?_) | (with_reducible refine ex_alloc ?_ _)))⟩
end Go.Proofs.YtcdocklbpfdmeaaDoor

/- Collide's laws: raw, ids, leaves, claim: what can be played in time. -/
set_option linter.unusedSimpArgs false
set_option linter.unusedVariables false
set_option linter.unnecessarySimpa false
set_option maxRecDepth 20000
namespace Go.Proofs.YtcdocklbpfdmeaaDoor
open Go.RowKit
theorem SlT.take {w : World} {a : Option Addr} {n c : Nat} {l : List UInt8} (h : SlT w (.slice a n c) l) (k : Nat) (hk : k ≤ l.length) : SlT w (.slice a k c) (l.take k) := by
  obtain ⟨a', c', hv, h1, h2, h3, h4⟩ := h.out
  obtain ⟨rfl, rfl, rfl⟩ : a = a' ∧ n = l.length ∧ c = c' := by simpa using hv
  refine ⟨a, c, by rw [List.length_take, Nat.min_eq_left hk], by rw [List.length_take]; omega, h2, h3, ?_⟩
  unfold SlL at h4 ⊢
  rw [List.length_take, Nat.min_eq_left hk]
  rcases h4.out with h0 | ⟨g, off, h5, h6, h7⟩
  · obtain rfl : k = 0 := by omega
    exact SlB.zero _ _ _
  · subst h5
    refine SlB.mk' h6 fun j hj => ?_
    rw [h7 j (by omega)]
    unfold gF
    rw [List.getD_eq_getElem?_getD, List.getD_eq_getElem?_getD, List.getElem?_take, if_pos hj]
theorem ownu_empty {w w' : World} {v : Value} (k : Ex (w.alloc (.cells #[] 5)) w') (hv : v = .slice (some ⟨w.heap.size, 0, none⟩) 0 0) : w'.ownsRow w.heap.size 5 1 v 0 (Lib.byteCells []) := by
  subst hv
  exact owns_ex (owns_new (n := 0) (cap := 0) rfl (Nat.le_refl _) (by omega) (by decide) (by simp) (by simp [Lib.byteCells])) k
set_option maxHeartbeats 1000000 in
theorem raw_any {v : Value} {l : List UInt8} {w : World} (hs : SlT w v l) :
    Calls Tryd.prog 24 #[v] w (PostU w (l.take 90)) := by
  obtain ⟨a, c, rfl, h1, h2, h3, h4⟩ := hs.out
  unfold maxLen at h2
  cases a with
  | none =>
    obtain rfl := h3 rfl
    obtain rfl : l = [] := List.eq_nil_of_length_eq_zero (by omega)
    rw [List.length_nil, List.take_nil]
    go_enter Tryd.func24, Tryd.ntmps24
    go_wp2
    go_ret
    exact ⟨_, rfl, ownu_of (ownu_empty (by (try show Ex _ _); repeat (first | (with_reducible exact ex_refl _) | (with_reducible assumption) | (with_reducible refine ex_drewL ?_) | (with_reducible refine ex_appR ?_ _) | (with_reducible refine ex_wx ?_ _) | (with_reducible refine ex_drew ?_) | (with_reducible refine ex_alloc ?_ _))) (by simp [go_sem])), (by (try show Ex _ _); repeat (first | (with_reducible exact ex_refl _) | (with_reducible assumption) | (with_reducible refine ex_drewL ?_) | (with_reducible refine ex_appR ?_ _) | (with_reducible refine ex_wx ?_ _) | (with_reducible refine ex_drew ?_) | (with_reducible refine ex_alloc ?_ _)))⟩
  | some ad =>
    obtain ⟨m, hm⟩ : ∃ m, min l.length 90 = m := ⟨_, rfl⟩
    have hml : (l.take 90).length = m := by rw [List.length_take]; omega
    have ht := hs.take m (by omega)
    have hst : SlS w (.slice (some ad) m c) (l.take 90) := by
      have e : l.take m = l.take 90 := by rw [← hm, Nat.min_comm, List.take_eq_take_iff]; simp
      rw [e] at ht
      obtain ⟨a', c', hv, k1, k2, k3, k4⟩ := ht.out
      rw [hml] at hv
      cases hv
      exact ⟨_, _, by rw [hml], k1, k2, k4⟩
    generalize l.take 90 = r at hml hst ⊢
    generalize l.length = n at h1 hm ⊢
    have e3 : m ≤ 90 := by omega
    have HR : Hid (m = r.length) := Lib.hid hml.symm
    clear hs hml ht h4 h3
    by_cases hkn : 90 < n
    · obtain rfl : m = 90 := by omega
      have e2 : (90 : Int) ≤ c := by omega
      have e4 : (90 : Int) < n := by omega
      have e5 : min (n : Int) 90 = 90 := by omega
      clear hm
      go_enter Tryd.func24, Tryd.ntmps24
      go_wp2_with (at_builtin; refine wpAppB _ _ rfl rfl (ownu_empty (w := w) (by (try show Ex _ _); repeat (first | (with_reducible exact ex_refl _) | (with_reducible assumption) | (with_reducible refine ex_drewL ?_) | (with_reducible refine ex_appR ?_ _) | (with_reducible refine ex_wx ?_ _) | (with_reducible refine ex_drew ?_) | (with_reducible refine ex_alloc ?_ _))) (by simp [go_sem])) rfl rfl (hst.ex (by (try show Ex _ _); repeat (first | (with_reducible exact ex_refl _) | (with_reducible assumption) | (with_reducible refine ex_drewL ?_) | (with_reducible refine ex_appR ?_ _) | (with_reducible refine ex_wx ?_ _) | (with_reducible refine ex_drew ?_) | (with_reducible refine ex_alloc ?_ _)))) (by have := HR.out; omega) (by simp [go_sem]) (fun v1 w1 hown hbe => ?_); obtain ⟨X1, rfl⟩ := exOf (A := w) (by (try show Ex _ _); repeat (first | (with_reducible exact ex_refl _) | (with_reducible assumption) | (with_reducible refine ex_drewL ?_) | (with_reducible refine ex_appR ?_ _) | (with_reducible refine ex_wx ?_ _) | (with_reducible refine ex_drew ?_) | (with_reducible refine ex_alloc ?_ _))) hbe)
      go_ret
      exact ⟨_, rfl, by have := ownu_of hown; simpa using this, (by (try show Ex _ _); repeat (first | (with_reducible exact ex_refl _) | (with_reducible assumption) | (with_reducible refine ex_drewL ?_) | (with_reducible refine ex_appR ?_ _) | (with_reducible refine ex_wx ?_ _) | (with_reducible refine ex_drew ?_) | (with_reducible refine ex_alloc ?_ _)))⟩
    · obtain rfl : m = n := by omega
      have e2 : (m : Int) ≤ c := by omega
      have e4 : ¬ (90 : Int) < m := by omega
      have e5 : min (m : Int) 90 = m := by omega
      clear hm
      go_enter Tryd.func24, Tryd.ntmps24
      go_wp2_with (at_builtin; refine wpAppB _ _ rfl rfl (ownu_empty (w := w) (by (try show Ex _ _); repeat (first | (with_reducible exact ex_refl _) | (with_reducible assumption) | (with_reducible refine ex_drewL ?_) | (with_reducible refine ex_appR ?_ _) | (with_reducible refine ex_wx ?_ _) | (with_reducible refine ex_drew ?_) | (with_reducible refine ex_alloc ?_ _))) (by simp [go_sem])) rfl rfl (hst.ex (by (try show Ex _ _); repeat (first | (with_reducible exact ex_refl _) | (with_reducible assumption) | (with_reducible refine ex_drewL ?_) | (with_reducible refine ex_appR ?_ _) | (with_reducible refine ex_wx ?_ _) | (with_reducible refine ex_drew ?_) | (with_reducible refine ex_alloc ?_ _)))) (by have := HR.out; omega) (by simp [go_sem]) (fun v1 w1 hown hbe => ?_); obtain ⟨X1, rfl⟩ := exOf (A := w) (by (try show Ex _ _); repeat (first | (with_reducible exact ex_refl _) | (with_reducible assumption) | (with_reducible refine ex_drewL ?_) | (with_reducible refine ex_appR ?_ _) | (with_reducible refine ex_wx ?_ _) | (with_reducible refine ex_drew ?_) | (with_reducible refine ex_alloc ?_ _))) hbe)
      go_ret
      exact ⟨_, rfl, by have := ownu_of hown; simpa using this, (by (try show Ex _ _); repeat (first | (with_reducible exact ex_refl _) | (with_reducible assumption) | (with_reducible refine ex_drewL ?_) | (with_reducible refine ex_appR ?_ _) | (with_reducible refine ex_wx ?_ _) | (with_reducible refine ex_drew ?_) | (with_reducible refine ex_alloc ?_ _)))⟩
def PostRaw (W : World) (l : List UInt8) (e : Ending) (w' : World) : Prop := ∃ a c, e = .returned (.slice a (min 90 l.length) c) ∧ OwnU w' (.slice a (min 90 l.length) c) (l.take 90) ∧ ∃ X, w' = wx W X
theorem raw_s {v : Value} {l : List UInt8} {w : World} (hs : SlT w v l) : Calls Tryd.prog 24 #[v] w (PostRaw w l) :=
  (raw_any hs).mono fun e w' ⟨v', h1, h2, h3⟩ => by
    obtain ⟨a, c, rfl, _⟩ := h2.slt.out
    rw [List.length_take] at h1 h2
    exact ⟨a, c, h1, h2, h3⟩
set_option maxHeartbeats 1000000 in
theorem ids_any (l : List Dg) (a : Option Addr) (c : Nat) (w : World) (hc : l.length ≤ c) (hcm : c ≤ maxLen) (ha : a = none → c = 0) (hs : SlD w a l) :
    Calls Tryd.prog 56 #[.slice a l.length c] w (PostO w (l.take 12)) := by
  unfold maxLen at hcm
  cases a with
  | none =>
    obtain rfl := ha rfl
    obtain rfl : l = [] := List.eq_nil_of_length_eq_zero (by omega)
    rw [List.take_nil, List.length_nil]
    go_enter Tryd.func56, Tryd.ntmps56
    go_wp2
    go_ret
    exact ⟨_, rfl, ownd_empty (by (try show Ex _ _); repeat (first | (with_reducible exact ex_refl _) | (with_reducible assumption) | (with_reducible refine ex_drewL ?_) | (with_reducible refine ex_appR ?_ _) | (with_reducible refine ex_wx ?_ _) | (with_reducible refine ex_drew ?_) | (with_reducible refine ex_alloc ?_ _))) (by simp [go_sem]) (by simp [go_sem]), (by (try show Ex _ _); repeat (first | (with_reducible exact ex_refl _) | (with_reducible assumption) | (with_reducible refine ex_drewL ?_) | (with_reducible refine ex_appR ?_ _) | (with_reducible refine ex_wx ?_ _) | (with_reducible refine ex_drew ?_) | (with_reducible refine ex_alloc ?_ _)))⟩
  | some ad =>
    clear ha
    obtain ⟨m, hm⟩ : ∃ m, min l.length 12 = m := ⟨_, rfl⟩
    have hml : (l.take 12).length = m := by rw [List.length_take]; omega
    have hst : SlD w (some ad) (l.take 12) := hs.take 12
    generalize l.take 12 = r at hml hst ⊢
    generalize l.length = n at hc hm ⊢
    have e3 : m ≤ 12 := by omega
    have HR : Hid (m = r.length) := Lib.hid hml.symm
    clear hs hml
    by_cases hkn : 12 < n
    · obtain rfl : m = 12 := by omega
      have e2 : (12 : Int) ≤ c := by omega
      have e4 : (12 : Int) < n := by omega
      have e5 : min (n : Int) 12 = 12 := by omega
      clear hm
      go_enter Tryd.func56, Tryd.ntmps56
      go_wp2_with (at_builtin; refine wpAppS _ _ rfl rfl (ownd_empty (Z := w.heap.size) (by (try show Ex _ _); repeat (first | (with_reducible exact ex_refl _) | (with_reducible assumption) | (with_reducible refine ex_drewL ?_) | (with_reducible refine ex_appR ?_ _) | (with_reducible refine ex_wx ?_ _) | (with_reducible refine ex_drew ?_) | (with_reducible refine ex_alloc ?_ _))) (by simp [go_sem]) (by simp [go_sem])) rfl rfl HR.out (hst.ex (by (try show Ex _ _); repeat (first | (with_reducible exact ex_refl _) | (with_reducible assumption) | (with_reducible refine ex_drewL ?_) | (with_reducible refine ex_appR ?_ _) | (with_reducible refine ex_wx ?_ _) | (with_reducible refine ex_drew ?_) | (with_reducible refine ex_alloc ?_ _)))) (by have := HR.out; simp; omega) (by simp [go_sem]) (fun v1 w1 hown hbe => ?_); obtain ⟨X1, rfl⟩ := exOf (A := w) (by (try show Ex _ _); repeat (first | (with_reducible exact ex_refl _) | (with_reducible assumption) | (with_reducible refine ex_drewL ?_) | (with_reducible refine ex_appR ?_ _) | (with_reducible refine ex_wx ?_ _) | (with_reducible refine ex_drew ?_) | (with_reducible refine ex_alloc ?_ _))) hbe)
      go_ret
      exact ⟨_, rfl, by simpa using hown, (by (try show Ex _ _); repeat (first | (with_reducible exact ex_refl _) | (with_reducible assumption) | (with_reducible refine ex_drewL ?_) | (with_reducible refine ex_appR ?_ _) | (with_reducible refine ex_wx ?_ _) | (with_reducible refine ex_drew ?_) | (with_reducible refine ex_alloc ?_ _)))⟩
    · obtain rfl : m = n := by omega
      have e2 : (m : Int) ≤ c := by omega
      have e4 : ¬ (12 : Int) < m := by omega
      have e5 : min (m : Int) 12 = m := by omega
      clear hm
      go_enter Tryd.func56, Tryd.ntmps56
      go_wp2_with (at_builtin; refine wpAppS _ _ rfl rfl (ownd_empty (Z := w.heap.size) (by (try show Ex _ _); repeat (first | (with_reducible exact ex_refl _) | (with_reducible assumption) | (with_reducible refine ex_drewL ?_) | (with_reducible refine ex_appR ?_ _) | (with_reducible refine ex_wx ?_ _) | (with_reducible refine ex_drew ?_) | (with_reducible refine ex_alloc ?_ _))) (by simp [go_sem]) (by simp [go_sem])) rfl rfl HR.out (hst.ex (by (try show Ex _ _); repeat (first | (with_reducible exact ex_refl _) | (with_reducible assumption) | (with_reducible refine ex_drewL ?_) | (with_reducible refine ex_appR ?_ _) | (with_reducible refine ex_wx ?_ _) | (with_reducible refine ex_drew ?_) | (with_reducible refine ex_alloc ?_ _)))) (by have := HR.out; simp; omega) (by simp [go_sem]) (fun v1 w1 hown hbe => ?_); obtain ⟨X1, rfl⟩ := exOf (A := w) (by (try show Ex _ _); repeat (first | (with_reducible exact ex_refl _) | (with_reducible assumption) | (with_reducible refine ex_drewL ?_) | (with_reducible refine ex_appR ?_ _) | (with_reducible refine ex_wx ?_ _) | (with_reducible refine ex_drew ?_) | (with_reducible refine ex_alloc ?_ _))) hbe)
      go_ret
      exact ⟨_, rfl, by simpa using hown, (by (try show Ex _ _); repeat (first | (with_reducible exact ex_refl _) | (with_reducible assumption) | (with_reducible refine ex_drewL ?_) | (with_reducible refine ex_appR ?_ _) | (with_reducible refine ex_wx ?_ _) | (with_reducible refine ex_drew ?_) | (with_reducible refine ex_alloc ?_ _)))⟩
end Go.Proofs.YtcdocklbpfdmeaaDoor

/- Collide's laws: leaves. -/
set_option linter.unusedSimpArgs false
set_option linter.unusedVariables false
set_option linter.unnecessarySimpa false
set_option maxRecDepth 20000
namespace Go.Proofs.YtcdocklbpfdmeaaDoor
open Go.RowKit
def lvL (l : List (List UInt8)) : List (List UInt8) := (l.take 16).map (·.take 90)
theorem lvL_short (l : List (List UInt8)) : ShortL (lvL l) := fun b hb => by
  obtain ⟨x, _, rfl⟩ := List.mem_map.1 hb
  rw [List.length_take]; omega
theorem lvL_len (l : List (List UInt8)) : (lvL l).length ≤ 16 := by
  unfold lvL; rw [List.length_map, List.length_take]; omega
theorem appSl : AppT Tryd.prog 56 35 1 24 (.slice none 0 0) := ⟨Tryd.underlying56, by kernel_rfl, by simp [Value.cells], by decide⟩
/-- A row of byte strings of the call's own. -/
structure OwnLs (w : World) (Z : Nat) (v : Value) (l : List (List UInt8)) : Prop where
  out : ∃ vs : List Value, vs.length = l.length ∧ w.ownsRow Z 35 1 v l.length vs ∧ ∀ i (hi : i < vs.length) b, l[i]? = some b → OwnU w (vs[i]) b
theorem OwnLs.ex {w w' : World} {Z : Nat} {v : Value} {l : List (List UInt8)} (h : OwnLs w Z v l) (k : Ex w w') : OwnLs w' Z v l := by
  obtain ⟨vs, h1, h2, h3⟩ := h.out
  exact ⟨vs, h1, owns_ex h2 k, fun i hi b hb => (h3 i hi b hb).ex k⟩
theorem OwnLs.le {w : World} {Z Z' : Nat} {v : Value} {l : List (List UInt8)} (h : OwnLs w Z v l) (hz : Z' ≤ Z) : OwnLs w Z' v l := by
  obtain ⟨vs, h1, h2, h3⟩ := h.out
  exact ⟨vs, h1, owns_le h2 hz, h3⟩
theorem OwnLs.nil (w : World) (Z : Nat) : OwnLs w Z (.slice none 0 0) [] := ⟨[], rfl, owns_nil _ _ _ _, fun i hi => by simp at hi⟩
theorem OwnLs.sl {w : World} {Z : Nat} {v : Value} {l : List (List UInt8)} (h : OwnLs w Z v l) : ∃ a c, v = .slice a l.length c ∧ l.length ≤ c ∧ c ≤ maxLen ∧ (a = none → c = 0) ∧ SlLs w a l := by
  obtain ⟨vs, h1, h2, h3⟩ := h.out
  rcases h2.2 with ⟨rfl, h0⟩ | ⟨g, cap, cur, rfl, k1, k2, k3, k4, k5, k6⟩
  · have := List.eq_nil_of_length_eq_zero h0
    subst this
    exact ⟨none, 0, rfl, by simp, by decide, fun _ => rfl, SlLs.nil _ _⟩
  · refine ⟨_, cap, rfl, k3, k4, (fun h => by cases h), ⟨Or.inr ⟨g, 0, rfl, (Array.getElem?_eq_some_iff.1 k2).1, fun i b hb => ?_⟩⟩⟩
    have hi : i < vs.length := by rw [h1]; exact (List.getElem?_eq_some_iff.1 hb).1
    refine ⟨vs[i], ?_, (h3 i hi b hb).slt⟩
    rw [Nat.zero_add, cell_of_row w g i _ _ _ k2]
    have e : (cur.toList.take (l.length * 1))[i]? = vs[i]? := by rw [k6]
    rw [List.getElem?_take_of_lt (by omega), Array.getElem?_toList, List.getElem?_eq_getElem hi] at e
    exact e
theorem wpAppK {P : Program} {t e : TypeId} {size bytes : Nat} {z : Value} (T : AppT P t e size bytes z) {ops : Array Oper} {rest : List Oper} {o : Oper} {a : Act} {w : World} {Q : Exit → Act → World → Prop} (s x : Operand) (hgd : o.guard = none)
    (ho : o.op = .call { callee := .builtin .append, args := #[s, x], argTypes := #[t, t] })
    {B : Nat} {v : Value} {n : Nat} {xs : List Value} (hown : w.ownsRow B e size v n xs) (hs : a.eval s = v)
    (ad : Addr) (m c : Nat) (news : List Value) (hx : a.eval x = .slice (some ad) m c) (hl : news.length = m * size) (hnews : ∀ j u, news[j]? = some u → w.cell? (ad.add j) = some u) (h1 : ∀ u ∈ news, u.oneCell' = true)
    (h63 : n + m ≤ maxLen) (hbytes : (n + m) * bytes ≤ 140737488355328) (hbase : B ≤ w.heap.size)
    (h : ∀ v' w', w'.ownsRow B e size v' (n + m) (xs ++ news) → Below B w w' → w.grownBy w' v.ownBlock → wpList P ops Q rest (a.put o.dst v') w') : wpList P ops Q (o :: rest) a w := by
  obtain ⟨i, hi, h1', h2', h3'⟩ := info_parts T.hi
  exact wpList_append_own w hgd s x t ho B e i z size bytes T.ht hi h1' h2' h3' T.hzs T.hsz v n xs hs hown ad m c news hx hl hnews h1 h63 hbytes hbase fun v' w' hw hg _ => h v' w' hw (below_app hown hg hbase) hg
theorem ownu_grown {w w' : World} {Z n s : Nat} {t : TypeId} {u v : Value} {c : List UInt8} {vs : List Value} (h : OwnU w u c) (hown : w.ownsRow Z t s v n vs) (ht : t ≠ 5) (hg : w.grownBy w' v.ownBlock) : OwnU w' u c := by
  refine ⟨h.1, ?_⟩
  rcases h.2 with h2 | ⟨g, cap, cur, h1, h2, h3, h4⟩
  · exact Or.inl h2
  · refine Or.inr ⟨g, cap, cur, h1, h2, (hg.block g (Array.getElem?_eq_some_iff.1 h3).1 fun e => ?_).trans h3, h4⟩
    rcases hown.2 with ⟨rfl, _⟩ | ⟨g2, cap2, cur2, rfl, _, k3, _⟩
    · cases e
    · obtain rfl : g = g2 := by
        have e : some g = some g2 := e
        exact Option.some.inj e
      rw [h3] at k3
      cases k3
      exact ht rfl
/-- append of one. -/
theorem wpAppSl {ops : Array Oper} {rest : List Oper} {o : Oper} {a : Act} {w : World} {Q : Exit → Act → World → Prop} (s x : Operand) (hgd : o.guard = none)
    (ho : o.op = .call { callee := .builtin .append, args := #[s, x], argTypes := #[56, 56] })
    {Z : Nat} {v : Value} {l : List (List UInt8)} {g : Nat} {bv : Value} {b : List UInt8} (hown : OwnLs w Z v l) (hs : a.eval s = v) (hx : a.eval x = .slice (some ⟨g, 0, none⟩) 1 1) (hc : w.cell? ⟨g, 0, none⟩ = some bv) (hb : OwnU w bv b) (hlen : l.length ≤ 1000000) (hZ : Z ≤ w.heap.size)
    (h : ∀ v' w', OwnLs w' Z v' (l ++ [b]) → Below Z w w' → wpList Tryd.prog ops Q rest (a.put o.dst v') w') : wpList Tryd.prog ops Q (o :: rest) a w := by
  obtain ⟨vs, h1, h2, h3⟩ := hown.out
  refine wpAppK appSl s x hgd ho h2 hs ⟨g, 0, none⟩ 1 1 [bv] hx rfl (fun j u hj => ?_) (fun u hu => ?_) (by unfold maxLen; omega) (by omega) hZ fun v' w' k1 k2 k3 => ?_
  · have hj0 : j = 0 := by
      have := (List.getElem?_eq_some_iff.1 hj).1
      simpa using this
    subst hj0
    simp at hj
    subst hj
    exact hc
  · rw [List.mem_singleton.1 hu]; exact ownu_one hb
  · refine h v' w' ⟨vs ++ [bv], by simp [h1], by simpa using k1, fun i hi b' hb' => ?_⟩ k2
    by_cases hil : i < l.length
    · rw [List.getElem?_append_left hil] at hb'
      rw [List.getElem_append_left (by omega)]
      exact ownu_grown (h3 i (by omega) b' hb') h2 (by decide) k3
    · have : i = l.length := by
        have := (List.getElem?_eq_some_iff.1 hb').1
        simp at this; omega
      subst this
      rw [List.getElem?_append_right (Nat.le_refl _), Nat.sub_self] at hb'
      simp at hb'
      subst hb'
      rw [List.getElem_append_right (by omega)]
      simp only [h1, Nat.sub_self]
      exact ownu_grown hb h2 (by decide) k3
theorem lvL_snoc (l : List (List UInt8)) (k : Nat) (b : List UInt8) (hk : k < 16) (hb : l[k]? = some b) : (l.take (k + 1)).map (·.take 90) = (l.take k).map (·.take 90) ++ [b.take 90] := by
  obtain ⟨h1, h2⟩ := List.getElem?_eq_some_iff.1 hb
  rw [List.take_succ_eq_append_getElem h1, List.map_append, h2]
  rfl
def PostLs (w : World) (l : List (List UInt8)) (e : Ending) (w' : World) : Prop := ∃ v, e = .returned v ∧ OwnLs w' w.heap.size v l ∧ ∃ X, w' = wx w X
set_option maxHeartbeats 1000000 in
theorem leaves_any (W : Int) (l : List (List UInt8)) (a : Option Addr) (c : Nat) (w : World) (hc : l.length ≤ c) (hcm : c ≤ maxLen) (hs : SlLs w a l) :
    Calls Tryd.prog 28 #[.agg #[I W, .slice a l.length c]] w (PostLs w (lvL l)) := by
  obtain ⟨n, hn⟩ : ∃ n, l.length = n := ⟨_, rfl⟩
  have HN : Hid (l.length = n) := Lib.hid hn
  rw [hn] at hc ⊢
  clear hn
  unfold maxLen at hcm
  go_enter Tryd.func28, Tryd.ntmps28
  go_wp2
  go_loopw [3, 9] (fun v i W' => ∃ k : Nat, k ≤ n ∧ i = I k ∧ Ex (w.alloc (.cells #[I W, .slice a n c] 63)) W' ∧ Hid (OwnLs W' (w.alloc (.cells #[I W, .slice a n c] 63)).heap.size v ((l.take (min k 16)).map (·.take 90)))) (fun _ i _ => n - (intOf i).toNat)
  case atStart => exact ⟨0, by omega, rfl, ex_refl _, Lib.hid (OwnLs.nil _ _)⟩
  case round =>
    obtain ⟨k, hk, rfl, ⟨X, rfl⟩, HO⟩ := hrel
    by_cases hlt : k < n
    · obtain ⟨g, off, rfl, hg, hcell⟩ := hs.pos (by rw [HN.out]; omega)
      obtain ⟨b, hb⟩ : ∃ b, l[k]? = some b := ⟨_, List.getElem?_eq_getElem (by rw [HN.out]; omega)⟩
      obtain ⟨bv, hc1, hb1⟩ := hcell k b hb
      have hbo : bv.oneCell' = true := by obtain ⟨_, _, rfl, _⟩ := hb1.out; rfl
      have HB := Lib.hid hb
      have HR := Lib.hid fun w' (h : Ex w w') => raw_any (hb1.ex h)
      clear hcell hb hb1 hs
      by_cases h16 : k < 16
      · have h16i : (k : Int) < 16 := by omega
        have hm : min k 16 = k := by omega
        have hm2 : min (k + 1) 16 = k + 1 := by omega
        rw [hm] at HO
        go_wp2_with (first | (go_at_call 24; (with_reducible refine (HR.out _ (by (try show Ex _ _); repeat (first | (with_reducible exact ex_refl _) | (with_reducible assumption) | (with_reducible refine ex_drewL ?_) | (with_reducible refine ex_appR ?_ _) | (with_reducible refine ex_wx ?_ _) | (with_reducible refine ex_drew ?_) | (with_reducible refine ex_alloc ?_ _)))).mono ?_); rintro e w2 ⟨v2, rfl, hv2, XR, rfl⟩; obtain ⟨va2, vc2, rfl, _⟩ := hv2.slt.out; (try simp only [wx_wx, wx_drew] at hv2); replace hv2 := Lib.hid hv2) | (at_builtin; refine wpAppSl (b := b.take 90) _ _ rfl rfl (OwnLs.ex HO.out (by (try show Ex _ _); repeat (first | (with_reducible exact ex_refl _) | (with_reducible assumption) | (with_reducible refine ex_drewL ?_) | (with_reducible refine ex_appR ?_ _) | (with_reducible refine ex_wx ?_ _) | (with_reducible refine ex_drew ?_) | (with_reducible refine ex_alloc ?_ _)))) rfl rfl (by simp [go_sem]; try rfl) (OwnU.ex hv2.out (by (try show Ex _ _); repeat (first | (with_reducible exact ex_refl _) | (with_reducible assumption) | (with_reducible refine ex_drewL ?_) | (with_reducible refine ex_appR ?_ _) | (with_reducible refine ex_wx ?_ _) | (with_reducible refine ex_drew ?_) | (with_reducible refine ex_alloc ?_ _)))) (by simp; omega) (by simp [go_sem] <;> omega) (fun v3 w3 hown3 hbe => ?_); obtain ⟨X3, rfl⟩ := exOf (A := w.alloc (.cells #[I W, .slice (some ⟨g, off, none⟩) n c] 63)) (by (try show Ex _ _); repeat (first | (with_reducible exact ex_refl _) | (with_reducible assumption) | (with_reducible refine ex_drewL ?_) | (with_reducible refine ex_appR ?_ _) | (with_reducible refine ex_wx ?_ _) | (with_reducible refine ex_drew ?_) | (with_reducible refine ex_alloc ?_ _))) hbe; replace hown3 := Lib.hid hown3; have hbe2 := Lib.hid hbe; clear hbe))
        refine ⟨⟨k + 1, by omega, by go_num, (by (try show Ex _ _); repeat (first | (with_reducible exact ex_refl _) | (with_reducible assumption) | (with_reducible refine ex_drewL ?_) | (with_reducible refine ex_appR ?_ _) | (with_reducible refine ex_wx ?_ _) | (with_reducible refine ex_drew ?_) | (with_reducible refine ex_alloc ?_ _))), ?_⟩, by simp [intOf]; omega⟩
        rw [hm2, lvL_snoc l k b h16 HB.out]
        exact hown3
      · have h16i : ¬ (k : Int) < 16 := by omega
        have hm : min k 16 = 16 := by omega
        have hm2 : min (k + 1) 16 = 16 := by omega
        rw [hm] at HO
        go_wp2
        exact ⟨⟨k + 1, by omega, by go_num, (by (try show Ex _ _); repeat (first | (with_reducible exact ex_refl _) | (with_reducible assumption) | (with_reducible refine ex_drewL ?_) | (with_reducible refine ex_appR ?_ _) | (with_reducible refine ex_wx ?_ _) | (with_reducible refine ex_drew ?_) | (with_reducible refine ex_alloc ?_ _))), by rw [hm2]; exact Lib.hid (HO.out.ex (by (try show Ex _ _); repeat (first | (with_reducible exact ex_refl _) | (with_reducible assumption) | (with_reducible refine ex_drewL ?_) | (with_reducible refine ex_appR ?_ _) | (with_reducible refine ex_wx ?_ _) | (with_reducible refine ex_drew ?_) | (with_reducible refine ex_alloc ?_ _))))⟩, by simp [intOf]; omega⟩
    · obtain rfl : k = n := by omega
      have e : (l.take (min k 16)).map (·.take 90) = lvL l := by
        unfold lvL
        congr 1
        rw [List.take_eq_take_iff, HN.out]; omega
      rw [e] at HO
      clear hlt hk hs
      go_wp2
      go_ret
      exact ⟨_, rfl, HO.out.le (by simp [go_sem]), (by (try show Ex _ _); repeat (first | (with_reducible exact ex_refl _) | (with_reducible assumption) | (with_reducible refine ex_drewL ?_) | (with_reducible refine ex_appR ?_ _) | (with_reducible refine ex_wx ?_ _) | (with_reducible refine ex_drew ?_) | (with_reducible refine ex_alloc ?_ _)))⟩
end Go.Proofs.YtcdocklbpfdmeaaDoor
