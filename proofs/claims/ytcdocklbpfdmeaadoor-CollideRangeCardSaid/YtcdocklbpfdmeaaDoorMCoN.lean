import Derived.Test.YtcdocklbpfdmeaaDoorMCoE
import Derived.Recover

/- Collide: put, rest. -/
set_option linter.unusedSimpArgs false
set_option linter.unusedVariables false
set_option linter.unnecessarySimpa false
set_option maxRecDepth 20000
namespace Go.Proofs.YtcdocklbpfdmeaaDoor
open Go.RowKit
set_option maxHeartbeats 1000000 in
theorem put_any {w0 : World} (G : Glob w0) (W : Nat) (hW : W ≤ 256) {p : Nat} {c : Cl} {v u : Value} {A D : List UInt8} {w : World} (k0 : Ex w0 w) (hk : Wk w p W c) (hv : OwnU w v A) (hu : OwnU w u D) (hA : A.length ≤ 1000000) (hD : D.length ≤ 1000000) :
    Calls Tryd.prog 100 #[.pointer (some ⟨p, 0, none⟩), v, u] w (PostK p W w (.agg (rowB 32 (dF (putC (sumW W) A D c).1))) (putC (sumW W) A D c).2) := by
  have HS : Hid (∀ w', Ex w w' → Calls Tryd.prog 61 #[I W, v] w' (Post w' (.agg (rowB 32 (dF (sumW W A)))))) := Lib.hid fun w' k => wsum_any G W hW (ex_trans k0 k) (hv.slt.ex k) hA
  have HT : Hid (∀ w', Ex w w' → Calls Tryd.prog 61 #[I W, u] w' (Post w' (.agg (rowB 32 (dF (sumW W D)))))) := Lib.hid fun w' k => wsum_any G W hW (ex_trans k0 k) (hu.slt.ex k) hD
  have HE : Hid (∀ w', Ex w w' → Calls Tryd.prog 35 #[v, u] w' (Post w' (.bool (decide (A = D))))) := Lib.hid fun w' k => bytesEq_any (hv.slt.ex k) (hu.slt.ex k)
  have hw0 := hk.width
  have hlt := hk.lt
  have HK := Lib.hid hk
  obtain ⟨va, vc, rfl, _⟩ := hv.slt.out
  obtain ⟨ua, uc, rfl, _⟩ := hu.slt.out
  have HV := Lib.hid hv
  have HU := Lib.hid hu
  have H1 : Hid ((putC (sumW W) A D c).1 = sumW W A) := Lib.hid rfl
  rw [H1.out]
  by_cases hc : c = none
  · subst hc
    have hw1 : w.cell? ⟨p, 1, none⟩ = some (.pointer none) := by rw [cell_of_row w p 1 _ _ _ hk.none_cell]; rfl
    by_cases hAD : A = D
    · have H2 : Hid ((putC (sumW W) A D none).2 = none) := Lib.hid (by unfold putC; rw [if_neg (by simp [hAD])])
      rw [H2.out]
      rw [decide_eq_true hAD] at HE
      generalize sumW W A = x at HS ⊢
      clear hk hv hu hAD H1 H2 HT
      go_enter Tryd.func100, Tryd.ntmps100
      go_wp2_with (go_at_call 61; (with_reducible refine (HS.out _ (by (try show Ex _ _); with_reducible repeat (first | exact ex_refl _ | assumption | refine ex_drewL ?_ | refine ex_appR ?_ _ | refine ex_wx ?_ _ | refine ex_drew ?_ | refine ex_alloc ?_ _))).mono ?_); rintro e w2 ⟨rfl, X, rfl⟩)
      refine wp_region_seq [(0, true), (1, true), (2, true), (3, true), (4, true), (5, true), (6, true), (7, true), (8, false), (9, true), (10, true), (11, true), (12, true), (13, true), (14, true), (15, true), (16, true), (17, true), (18, false), (19, true), (20, true)] (by kernel_rfl) (by kernel_rfl) (fun _ _ d _ _ h => by cases d <;> exact h) ?_
      simp only [List.map_cons, List.map_nil, nth]
      repeat (first | ((with_reducible refine wpSeq_look ?_); go_big_quiet_step (fail); (with_reducible refine wpQuiet_nil ?_)) | ((with_reducible refine wpSeq_effF ?_ ?_); (focus rfl); go_simp) | ((with_reducible refine wpSeq_eff ?_ ?_); (focus rfl); (try dsimp only); go_wp2_with (first | (go_at_call 35; (with_reducible refine (HE.out _ (by (try show Ex _ _); with_reducible repeat (first | exact ex_refl _ | assumption | refine ex_drewL ?_ | refine ex_appR ?_ _ | refine ex_wx ?_ _ | refine ex_drew ?_ | refine ex_alloc ?_ _))).mono ?_); rintro e w2 ⟨rfl, X, rfl⟩)); refine mixQ_mk (by (try show Ex _ _); with_reducible repeat (first | exact ex_refl _ | assumption | refine ex_drewL ?_ | refine ex_appR ?_ _ | refine ex_wx ?_ _ | refine ex_drew ?_ | refine ex_alloc ?_ _)) ?_))
      refine wpSeq_nil ?_
      go_wp2
      exact ret_row (cs := rowB 32 (dF x)) Tryd.results100 Tryd.underlying46 rfl info_id rfl (by simp [go_sem]) rfl (postk_ex rfl HK.out (by (try show Ex _ _); with_reducible repeat (first | exact ex_refl _ | assumption | refine ex_drewL ?_ | refine ex_appR ?_ _ | refine ex_wx ?_ _ | refine ex_drew ?_ | refine ex_alloc ?_ _)))
    · rw [decide_eq_false hAD] at HE
      have he := eqD (sumW W A) (sumW W D)
      by_cases hSS : sumW W A = sumW W D
      · have H2 : Hid ((putC (sumW W) A D none).2 = some (A, D)) := Lib.hid (by unfold putC; rw [if_pos ⟨rfl, hAD, hSS⟩])
        rw [H2.out]
        rw [decide_eq_true hSS] at he
        generalize sumW W A = x at HS he ⊢
        generalize sumW W D = y at HT he
        clear hk hv hu hAD H1 H2 hSS
        have hf1 : w.frozen? ⟨p, 1, none⟩ = false := (block_cellF (o := 1) (v := .pointer none) HK.out.none_cell rfl).2
        go_enter Tryd.func100, Tryd.ntmps100
        go_wp2_with (go_at_call 61; (with_reducible refine (HS.out _ (by (try show Ex _ _); with_reducible repeat (first | exact ex_refl _ | assumption | refine ex_drewL ?_ | refine ex_appR ?_ _ | refine ex_wx ?_ _ | refine ex_drew ?_ | refine ex_alloc ?_ _))).mono ?_); rintro e w2 ⟨rfl, X, rfl⟩)
        refine wp_region_seq [(0, true), (1, true), (2, true), (3, true), (4, true), (5, true), (6, true), (7, true), (8, false), (9, true), (10, true), (11, true), (12, true), (13, true), (14, true), (15, true), (16, true), (17, true), (18, false), (19, true), (20, true)] (by kernel_rfl) (by kernel_rfl) (fun _ _ d _ _ h => by cases d <;> exact h) ?_
        simp only [List.map_cons, List.map_nil, nth]
        repeat (first | ((with_reducible refine wpSeq_look ?_); go_big_quiet_step (fail); (with_reducible refine wpQuiet_nil ?_)) | ((with_reducible refine wpSeq_effF ?_ ?_); (focus rfl); go_simp) | ((with_reducible refine wpSeq_eff ?_ ?_); (focus rfl); (try dsimp only); go_wp2_with (first | (go_at_call 35; (with_reducible refine (HE.out _ (by (try show Ex _ _); with_reducible repeat (first | exact ex_refl _ | assumption | refine ex_drewL ?_ | refine ex_appR ?_ _ | refine ex_wx ?_ _ | refine ex_drew ?_ | refine ex_alloc ?_ _))).mono ?_); rintro e w2 ⟨rfl, X, rfl⟩) | (go_at_call 61; (with_reducible refine (HT.out _ (by (try show Ex _ _); with_reducible repeat (first | exact ex_refl _ | assumption | refine ex_drewL ?_ | refine ex_appR ?_ _ | refine ex_wx ?_ _ | refine ex_drew ?_ | refine ex_alloc ?_ _))).mono ?_); rintro e w2 ⟨rfl, X, rfl⟩)); refine mixQ_mk (by (try show Ex _ _); with_reducible repeat (first | exact ex_refl _ | assumption | refine ex_drewL ?_ | refine ex_appR ?_ _ | refine ex_wx ?_ _ | refine ex_drew ?_ | refine ex_alloc ?_ _)) ?_))
        refine wpSeq_nil ?_
        go_wp2
        all_goals first | (exfalso; omega) | exact ret_row (cs := rowB 32 (dF x)) Tryd.results100 Tryd.underlying46 rfl info_id rfl (by simp [go_sem] <;> omega) rfl ⟨rfl, HK.out.noteP (by (try show Ex _ _); with_reducible repeat (first | exact ex_refl _ | assumption | refine ex_drewL ?_ | refine ex_appR ?_ _ | refine ex_wx ?_ _ | refine ex_drew ?_ | refine ex_alloc ?_ _)) (by simp [go_sem]) HV.out HU.out⟩
      · have H2 : Hid ((putC (sumW W) A D none).2 = none) := Lib.hid (by unfold putC; rw [if_neg (by simp [hSS])])
        rw [H2.out]
        rw [decide_eq_false hSS] at he
        generalize sumW W A = x at HS he ⊢
        generalize sumW W D = y at HT he
        clear hk hv hu hAD H1 H2 hSS
        go_enter Tryd.func100, Tryd.ntmps100
        go_wp2_with (go_at_call 61; (with_reducible refine (HS.out _ (by (try show Ex _ _); with_reducible repeat (first | exact ex_refl _ | assumption | refine ex_drewL ?_ | refine ex_appR ?_ _ | refine ex_wx ?_ _ | refine ex_drew ?_ | refine ex_alloc ?_ _))).mono ?_); rintro e w2 ⟨rfl, X, rfl⟩)
        refine wp_region_seq [(0, true), (1, true), (2, true), (3, true), (4, true), (5, true), (6, true), (7, true), (8, false), (9, true), (10, true), (11, true), (12, true), (13, true), (14, true), (15, true), (16, true), (17, true), (18, false), (19, true), (20, true)] (by kernel_rfl) (by kernel_rfl) (fun _ _ d _ _ h => by cases d <;> exact h) ?_
        simp only [List.map_cons, List.map_nil, nth]
        repeat (first | ((with_reducible refine wpSeq_look ?_); go_big_quiet_step (fail); (with_reducible refine wpQuiet_nil ?_)) | ((with_reducible refine wpSeq_effF ?_ ?_); (focus rfl); go_simp) | ((with_reducible refine wpSeq_eff ?_ ?_); (focus rfl); (try dsimp only); go_wp2_with (first | (go_at_call 35; (with_reducible refine (HE.out _ (by (try show Ex _ _); with_reducible repeat (first | exact ex_refl _ | assumption | refine ex_drewL ?_ | refine ex_appR ?_ _ | refine ex_wx ?_ _ | refine ex_drew ?_ | refine ex_alloc ?_ _))).mono ?_); rintro e w2 ⟨rfl, X, rfl⟩) | (go_at_call 61; (with_reducible refine (HT.out _ (by (try show Ex _ _); with_reducible repeat (first | exact ex_refl _ | assumption | refine ex_drewL ?_ | refine ex_appR ?_ _ | refine ex_wx ?_ _ | refine ex_drew ?_ | refine ex_alloc ?_ _))).mono ?_); rintro e w2 ⟨rfl, X, rfl⟩)); refine mixQ_mk (by (try show Ex _ _); with_reducible repeat (first | exact ex_refl _ | assumption | refine ex_drewL ?_ | refine ex_appR ?_ _ | refine ex_wx ?_ _ | refine ex_drew ?_ | refine ex_alloc ?_ _)) ?_))
        refine wpSeq_nil ?_
        go_wp2
        exact ret_row (cs := rowB 32 (dF x)) Tryd.results100 Tryd.underlying46 rfl info_id rfl (by simp [go_sem]) rfl (postk_ex rfl HK.out (by (try show Ex _ _); with_reducible repeat (first | exact ex_refl _ | assumption | refine ex_drewL ?_ | refine ex_appR ?_ _ | refine ex_wx ?_ _ | refine ex_drew ?_ | refine ex_alloc ?_ _)))
  · obtain ⟨y, rfl⟩ : ∃ y, c = some y := Option.ne_none_iff_exists'.1 hc
    obtain ⟨q, hq⟩ := hk.some_cell
    have hw1 : w.cell? ⟨p, 1, none⟩ = some (.pointer (some ⟨q, 0, none⟩)) := by rw [cell_of_row w p 1 _ _ _ hq]; rfl
    have H2 : Hid ((putC (sumW W) A D (some y)).2 = some y) := Lib.hid (by unfold putC; rw [if_neg (by simp)])
    rw [H2.out]
    generalize sumW W A = x at HS ⊢
    clear hk hv hu H1 H2 HT HE hq hc
    go_enter Tryd.func100, Tryd.ntmps100
    go_wp2_with (go_at_call 61; (with_reducible refine (HS.out _ (by (try show Ex _ _); with_reducible repeat (first | exact ex_refl _ | assumption | refine ex_drewL ?_ | refine ex_appR ?_ _ | refine ex_wx ?_ _ | refine ex_drew ?_ | refine ex_alloc ?_ _))).mono ?_); rintro e w2 ⟨rfl, X, rfl⟩)
    refine wp_region_seq [(0, true), (1, true), (2, true), (3, true), (4, true), (5, true), (6, true), (7, true), (8, false), (9, true), (10, true), (11, true), (12, true), (13, true), (14, true), (15, true), (16, true), (17, true), (18, false), (19, true), (20, true)] (by kernel_rfl) (by kernel_rfl) (fun _ _ d _ _ h => by cases d <;> exact h) ?_
    simp only [List.map_cons, List.map_nil, nth]
    repeat (first | ((with_reducible refine wpSeq_look ?_); go_big_quiet_step (fail); (with_reducible refine wpQuiet_nil ?_)) | ((with_reducible refine wpSeq_effF ?_ ?_); (focus rfl); go_simp) | ((with_reducible refine wpSeq_eff ?_ ?_); (focus rfl); (try dsimp only); go_wp2_with (fail); refine mixQ_mk (by (try show Ex _ _); with_reducible repeat (first | exact ex_refl _ | assumption | refine ex_drewL ?_ | refine ex_appR ?_ _ | refine ex_wx ?_ _ | refine ex_drew ?_ | refine ex_alloc ?_ _)) ?_))
    refine wpSeq_nil ?_
    go_wp2
    exact ret_row (cs := rowB 32 (dF x)) Tryd.results100 Tryd.underlying46 rfl info_id rfl (by simp [go_sem]) rfl (postk_ex rfl HK.out (by (try show Ex _ _); with_reducible repeat (first | exact ex_refl _ | assumption | refine ex_drewL ?_ | refine ex_appR ?_ _ | refine ex_wx ?_ _ | refine ex_drew ?_ | refine ex_alloc ?_ _)))
/-- A value handed back, and a row in memory. -/
theorem ret_Vrow {P : Program} {fn : Func} {p q : Tmp} {ty : TypeId} {d : TypeDesc} {n b : Nat} {cs : Array Value} {v : Value} {R : Ending → World → Prop} {a : Act} {w : World} (h : fn.results = #[.tmp q, .cell p ty])
    (hu : P.underlying ty = some d) (hd : d.isRow = true) (hi : (P.info? ty).map (·.size) = some n) (hp : a.tmps.getD p undef = .pointer (some ⟨b, 0, none⟩)) (hc : cellsN w b 0 n = some cs) (hq : a.tmps.getD q undef = v) (hdf : a.defers = [])
    (hR : R (.returned (.tuple #[v, .agg cs])) w) : bodyPost P fn R .ret a w := by
  have h1 := (cellsN_some.1 hc).1
  have hrun := run_loadVar_mid (P := P) w b 0 ty cs.toList d (cellsN_range hc) hu hd (by rw [hi]; simp [h1])
  have hp' : a.tmps[p]?.getD undef = .pointer (some ⟨b, 0, none⟩) := by simpa using hp
  have hq' : a.tmps[q]?.getD undef = v := by simpa using hq
  exact bodyPost_ret (by simp [results, h, hp', hq', asAddr, hrun]) hdf hR
/-- What is no proof leaves by panic. -/
def offE : Ending := .panicked [{ v := .iface 177 (.agg #[]), recovered := false }]
theorem rest_none (a : Option Addr) (c : Nat) (w : World) : Calls Tryd.prog 142 #[.slice a 0 c] w fun e w' => e = offE ∧ Ex w w' := by
  go_enter Tryd.func142, Tryd.ntmps142
  go_wp2
  exact ⟨rfl, rfl, (by (try show Ex _ _); with_reducible repeat (first | exact ex_refl _ | assumption | refine ex_drewL ?_ | refine ex_appR ?_ _ | refine ex_wx ?_ _ | refine ex_drew ?_ | refine ex_alloc ?_ _))⟩
set_option maxHeartbeats 1000000 in
theorem rest_some (r : List Dg) (x : Dg) (a : Option Addr) (c : Nat) (w : World) (hc : r.length + 1 ≤ c) (hcm : c ≤ maxLen) (hs : SlD w a (r ++ [x])) :
    Calls Tryd.prog 142 #[.slice a ((r.length + 1 : Nat)) c] w (Post w (.tuple #[.slice a r.length c, .agg (rowB 32 (dF x))])) := by
  obtain ⟨g, off, rfl, hg, hcell⟩ := hs.pos (by simp)
  have h1 := hcell r.length x (by simp)
  unfold maxLen at hcm
  generalize r.length = n at *
  clear hcell hs
  have e0 : (((n + 1 : Nat) : Int) == 0) = false := beq_eq_false_iff_ne.2 (by omega)
  have mixed : Tryd.prog.follows .mixedOrders = true := by kernel_rfl
  go_enter Tryd.func142, Tryd.ntmps142
  go_wp2
  go_big_region_o
  go_wp2
  exact ret_Vrow (cs := rowB 32 (dF x)) Tryd.results142 Tryd.underlying46 rfl info_id rfl (by simp [go_sem]) rfl rfl (post_mk rfl (by (try show Ex _ _); with_reducible repeat (first | exact ex_refl _ | assumption | refine ex_drewL ?_ | refine ex_appR ?_ _ | refine ex_wx ?_ _ | refine ex_drew ?_ | refine ex_alloc ?_ _)))
end Go.Proofs.YtcdocklbpfdmeaaDoor
