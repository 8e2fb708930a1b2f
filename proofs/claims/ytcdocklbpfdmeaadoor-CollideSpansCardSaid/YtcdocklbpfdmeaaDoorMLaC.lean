import Derived.Test.YtcdocklbpfdmeaaDoorMDoA
import Derived.Test.YtcdocklbpfdmeaaDoorMLittle
import Derived.Lib.SlBytesConst

/- Collide's laws: claim, Same, Is, Digest. -/
set_option linter.unusedSimpArgs false
set_option linter.unusedVariables false
set_option linter.unnecessarySimpa false
set_option maxRecDepth 20000
namespace Go.Proofs.YtcdocklbpfdmeaaDoor
open Go.RowKit
theorem info_claim : (Tryd.prog.info? 67).map (·.size) = some 3 := by kernel_rfl
@[go_sem] theorem load_claim (b o : Nat) (w : World) : loadRun Tryd.prog 67 (.pointer (some ⟨b, o, none⟩)) w = match cellsN w b o 3 with | some cs => .ok (.value (.agg cs)) w | none => loadRaw Tryd.prog 67 (.pointer (some ⟨b, o, none⟩)) w := loadRun_row Tryd.underlying67 rfl info_claim b o w
@[go_sem] theorem store_claim (b o : Nat) (vs : Array Value) (w : World) : storeRun Tryd.prog 67 (.pointer (some ⟨b, o, none⟩)) (.agg vs) w = if (vs.size == 3 && (cellsN w b o 3).isSome && !frozenN w b o 3 && oneCells vs) = true then .ok .skip (w.setCells b o vs.toList) else storeRaw Tryd.prog 67 (.pointer (some ⟨b, o, none⟩)) (.agg vs) w := storeRun_row info_claim b o vs w
theorem OwnU.turn {w : World} {X : More} {cs cs' : Array Value} {t : TypeId} {v : Value} {l : List UInt8} (h : OwnU (wx (w.alloc (.cells cs t)) X) v l) (ht : t ≠ 5) : OwnU (wx (w.alloc (.cells cs' t)) X) v l :=
  h.frm (nou_type (turn_block _ _ _) ht) (frm_turn _ _ _ _)
theorem OwnD.turn {w : World} {X : More} {cs cs' : Array Value} {t : TypeId} {v : Value} {Z : Nat} {l : List Dg} (h : OwnD (wx (w.alloc (.cells cs t)) X) Z v l) (ht : t ≠ 46) : OwnD (wx (w.alloc (.cells cs' t)) X) Z v l :=
  owns_frm h (fun b cs2 fr hb h2 => by
    have hb : b = w.heap.size := hb
    subst hb
    rw [turn_block] at h2
    cases h2
    exact ht rfl) (frm_turn _ _ _ _)
/-- Is it a clash? -/
def isC (W : Int) (a b : List UInt8) : Bool := wideB W && (!decide (a = b) && decide (sumW W.toNat a = sumW W.toNat b))
theorem wsumG {w0 : World} (G : Glob w0) {w : World} (k0 : Ex w0 w) (n : Nat) (hn : n ≤ 256) {v : Value} {l : List UInt8} {w' : World} (k : Ex w w') (hs : SlT w' v l) (h48 : l.length ≤ 1000000) :
    Calls Tryd.prog 61 #[I n, v] w' (Post w' (.agg (rowB 32 (dF (sumW n l))))) := wsum_any G n hn (ex_trans k0 k) hs h48
set_option maxHeartbeats 1000000 in
theorem wis_any {w0 : World} (G : Glob w0)(W : Int) {sa sb : Value} {a b : List UInt8} {w : World} (k0 : Ex w0 w)(h1 : SlT w sa a) (h2 : SlT w sb b) (l1 : a.length ≤ 1000000) (l2 : b.length ≤ 1000000) :
    Calls Tryd.prog 16 #[I W, .agg #[sa, sb]] w (Post w (.bool (isC W a b))) := by
  have HW := Lib.hid fun w' => wide_any W w'
  have HE := Lib.hid fun w' (k : Ex w w') => bytesEq_any (h1.ex k) (h2.ex k)
  have HA : Hid (wideB W = true → ∀ w', Ex w w' → Calls Tryd.prog 61 #[I W, sa] w' (Post w' (.agg (rowB 32 (dF (sumW W.toNat a)))))) := Lib.hid fun hw w' k => by
    have hw := of_decide_eq_true hw
    obtain ⟨N, rfl⟩ : ∃ N : Nat, W = N := ⟨W.toNat, by omega⟩
    exact wsumG G k0 N (by omega) k (h1.ex k) l1
  have HB : Hid (wideB W = true → ∀ w', Ex w w' → Calls Tryd.prog 61 #[I W, sb] w' (Post w' (.agg (rowB 32 (dF (sumW W.toNat b)))))) := Lib.hid fun hw w' k => by
    have hw := of_decide_eq_true hw
    obtain ⟨N, rfl⟩ : ∃ N : Nat, W = N := ⟨W.toNat, by omega⟩
    exact wsumG G k0 N (by omega) k (h2.ex k) l2
  have he := eqD (sumW W.toNat a) (sumW W.toNat b)
  unfold isC
  obtain ⟨aa, ac, rfl, _⟩ := h1.out
  obtain ⟨ba, bc, rfl, _⟩ := h2.out
  generalize sumW W.toNat a = x at HA he ⊢
  generalize sumW W.toNat b = y at HB he ⊢
  generalize decide (x = y) = xy at he ⊢
  generalize decide (a = b) = ab at HE ⊢
  generalize wideB W = wd at HW HA HB ⊢
  clear h1 h2
  cases wd with
  | false =>
    have HW2 : Hid (∀ w', Calls Tryd.prog _ #[I W] w' (Post w' (.bool false))) := HW
    rw [Bool.false_and]
    clear HA HB HE HW
    go_enter Tryd.func16, Tryd.ntmps16
    go_wp2
    refine wp_region_seq [(0, true), (1, false), (2, true), (3, true), (4, true), (5, true), (6, true), (7, false), (8, true), (9, true), (10, true), (11, true), (12, true), (13, true), (15, true), (16, true), (17, true), (14, false), (18, false), (19, true), (20, true), (21, true)] (by kernel_rfl) (by kernel_rfl) (fun _ _ d _ _ h => by cases d <;> exact h) ?_
    simp only [List.map_cons, List.map_nil, nth]
    repeat (first | ((with_reducible refine wpSeq_look ?_); go_big_quiet_step (fail); (with_reducible refine wpQuiet_nil ?_)) | ((with_reducible refine wpSeq_effF ?_ ?_); (focus rfl); go_simp) | ((with_reducible refine wpSeq_eff ?_ ?_); (focus rfl); (try dsimp only); go_wp2_with (((with_reducible refine (HW2.out _).mono ?_); rintro e w2 ⟨rfl, X, rfl⟩)); refine mixQ_mk (by (try show Ex _ _); with_reducible repeat (first | exact ex_refl _ | assumption | refine ex_drewL ?_ | refine ex_appR ?_ _ | refine ex_wx ?_ _ | refine ex_drew ?_ | refine ex_alloc ?_ _)) ?_))
    refine wpSeq_nil ?_
    go_wp2
    go_ret
    exact post_mk rfl (by (try show Ex _ _); with_reducible repeat (first | exact ex_refl _ | assumption | refine ex_drewL ?_ | refine ex_appR ?_ _ | refine ex_wx ?_ _ | refine ex_drew ?_ | refine ex_alloc ?_ _))
  | true =>
    have HW2 : Hid (∀ w', Calls Tryd.prog _ #[I W] w' (Post w' (.bool true))) := HW
    have HA2 := Lib.hid (HA.out rfl)
    have HB2 := Lib.hid (HB.out rfl)
    rw [Bool.true_and]
    clear HA HB HW
    have tok : True := trivial
    cases ab with
    | true =>
      have HE2 : Hid (∀ w', Ex w w' → Calls Tryd.prog _ _ w' (Post w' (.bool true))) := HE
      rw [Bool.not_true, Bool.false_and]
      go_enter Tryd.func16, Tryd.ntmps16
      go_wp2
      refine wp_region_seq [(0, true), (1, false), (2, true), (3, true), (4, true), (5, true), (6, true), (7, false), (8, true), (9, true), (10, true), (11, true), (12, true), (13, true), (15, true), (16, true), (17, true), (14, false), (18, false), (19, true), (20, true), (21, true)] (by kernel_rfl) (by kernel_rfl) (fun _ _ d _ _ h => by cases d <;> exact h) ?_
      simp only [List.map_cons, List.map_nil, nth]
      repeat (first | ((with_reducible refine wpSeq_look ?_); go_big_quiet_step (fail); (with_reducible refine wpQuiet_nil ?_)) | ((with_reducible refine wpSeq_effF ?_ ?_); (focus rfl); go_simp) | ((with_reducible refine wpSeq_eff ?_ ?_); (focus rfl); (try dsimp only); go_wp2_with (first | ((with_reducible refine (HW2.out _).mono ?_); rintro e w2 ⟨rfl, X, rfl⟩) | ((with_reducible refine (HE2.out _ (by (try show Ex _ _); with_reducible repeat (first | exact ex_refl _ | assumption | refine ex_drewL ?_ | refine ex_appR ?_ _ | refine ex_wx ?_ _ | refine ex_drew ?_ | refine ex_alloc ?_ _))).mono ?_); rintro e w2 ⟨rfl, X, rfl⟩)); refine mixQ_mk (by (try show Ex _ _); with_reducible repeat (first | exact ex_refl _ | assumption | refine ex_drewL ?_ | refine ex_appR ?_ _ | refine ex_wx ?_ _ | refine ex_drew ?_ | refine ex_alloc ?_ _)) ?_))
      refine wpSeq_nil ?_
      go_wp2
      go_ret
      exact post_mk rfl (by (try show Ex _ _); with_reducible repeat (first | exact ex_refl _ | assumption | refine ex_drewL ?_ | refine ex_appR ?_ _ | refine ex_wx ?_ _ | refine ex_drew ?_ | refine ex_alloc ?_ _))
    | false =>
      have HE2 : Hid (∀ w', Ex w w' → Calls Tryd.prog _ _ w' (Post w' (.bool false))) := HE
      rw [Bool.not_false, Bool.true_and]
      go_enter Tryd.func16, Tryd.ntmps16
      go_wp2
      refine wp_region_seq [(0, true), (1, false), (2, true), (3, true), (4, true), (5, true), (6, true), (7, false), (8, true), (9, true), (10, true), (11, true), (12, true), (13, true), (15, true), (16, true), (17, true), (14, false), (18, false), (19, true), (20, true), (21, true)] (by kernel_rfl) (by kernel_rfl) (fun _ _ d _ _ h => by cases d <;> exact h) ?_
      simp only [List.map_cons, List.map_nil, nth]
      repeat (first | ((with_reducible refine wpSeq_look ?_); go_big_quiet_step (fail); (with_reducible refine wpQuiet_nil ?_)) | ((with_reducible refine wpSeq_effF ?_ ?_); (focus rfl); go_simp) | ((with_reducible refine wpSeq_eff ?_ ?_); (focus rfl); (try dsimp only); go_wp2_with (first | ((with_reducible refine (HW2.out _).mono ?_); rintro e w2 ⟨rfl, X, rfl⟩) | ((with_reducible refine (HE2.out _ (by (try show Ex _ _); with_reducible repeat (first | exact ex_refl _ | assumption | refine ex_drewL ?_ | refine ex_appR ?_ _ | refine ex_wx ?_ _ | refine ex_drew ?_ | refine ex_alloc ?_ _))).mono ?_); rintro e w2 ⟨rfl, X, rfl⟩) | (have _t := tok; clear tok; (with_reducible refine (HA2.out _ (by (try show Ex _ _); with_reducible repeat (first | exact ex_refl _ | assumption | refine ex_drewL ?_ | refine ex_appR ?_ _ | refine ex_wx ?_ _ | refine ex_drew ?_ | refine ex_alloc ?_ _))).mono ?_); rintro e w2 ⟨rfl, X, rfl⟩) | ((with_reducible refine (HB2.out _ (by (try show Ex _ _); with_reducible repeat (first | exact ex_refl _ | assumption | refine ex_drewL ?_ | refine ex_appR ?_ _ | refine ex_wx ?_ _ | refine ex_drew ?_ | refine ex_alloc ?_ _))).mono ?_); rintro e w2 ⟨rfl, X, rfl⟩)); refine mixQ_mk (by (try show Ex _ _); with_reducible repeat (first | exact ex_refl _ | assumption | refine ex_drewL ?_ | refine ex_appR ?_ _ | refine ex_wx ?_ _ | refine ex_drew ?_ | refine ex_alloc ?_ _)) ?_))
      refine wpSeq_nil ?_
      go_wp2
      go_ret
      exact post_mk rfl (by (try show Ex _ _); with_reducible repeat (first | exact ex_refl _ | assumption | refine ex_drewL ?_ | refine ex_appR ?_ _ | refine ex_wx ?_ _ | refine ex_drew ?_ | refine ex_alloc ?_ _))
set_option maxHeartbeats 1000000 in
theorem wdigest_any {w0 : World} (G : Glob w0) (W : Int) {v : Value} {l : List UInt8} {w : World} (k0 : Ex w0 w) (hs : SlT w v l) (h48 : l.length ≤ 1000000) :
    Calls Tryd.prog 23 #[I W, v] w (Post w (if wideB W = true then .tuple #[.agg (rowB 32 (dF (sumW W.toNat l))), I 0] else .tuple #[.agg (rowB 32 (dF zeroD)), I 2])) := by
  have HW := Lib.hid fun w' => wide_any W w'
  by_cases hw : wideB W = true
  · rw [if_pos hw]
    rw [hw] at HW
    have hw := of_decide_eq_true hw
    obtain ⟨N, rfl⟩ : ∃ N : Nat, W = N := ⟨W.toNat, by omega⟩
    rw [Int.toNat_natCast]
    have HS := Lib.hid fun w' (k : Ex w w') => wsum_any G N (by omega) (ex_trans k0 k) (hs.ex k) h48
    generalize sumW N l = x at HS ⊢
    go_enter Tryd.func23, Tryd.ntmps23
    go_wp2_with (first | (go_at_call 60; (with_reducible refine (HW.out _).mono ?_); rintro e w2 ⟨rfl, X, rfl⟩) | (go_at_call 61; (with_reducible refine (HS.out _ (by (try show Ex _ _); with_reducible repeat (first | exact ex_refl _ | assumption | refine ex_drewL ?_ | refine ex_appR ?_ _ | refine ex_wx ?_ _ | refine ex_drew ?_ | refine ex_alloc ?_ _))).mono ?_); rintro e w2 ⟨rfl, X, rfl⟩))
    exact ret_rowV (cs := rowB 32 (dF x)) Tryd.results23 Tryd.underlying46 rfl info_id rfl (by simp [go_sem]) rfl rfl (post_mk rfl (by (try show Ex _ _); with_reducible repeat (first | exact ex_refl _ | assumption | refine ex_drewL ?_ | refine ex_appR ?_ _ | refine ex_wx ?_ _ | refine ex_drew ?_ | refine ex_alloc ?_ _)))
  · have hf : wideB W = false := by simpa using hw
    rw [if_neg hw, row_zeroC]
    rw [hf] at HW
    go_enter Tryd.func23, Tryd.ntmps23
    go_wp2_with (go_at_call 60; (with_reducible refine (HW.out _).mono ?_); rintro e w2 ⟨rfl, X, rfl⟩)
    exact ret_rowV (cs := rowB 32 fun _ => 0) Tryd.results23 Tryd.underlying46 rfl info_id rfl (by simp [go_sem]) rfl rfl (post_mk rfl (by (try show Ex _ _); with_reducible repeat (first | exact ex_refl _ | assumption | refine ex_drewL ?_ | refine ex_appR ?_ _ | refine ex_wx ?_ _ | refine ex_drew ?_ | refine ex_alloc ?_ _)))
end Go.Proofs.YtcdocklbpfdmeaaDoor

/- Collide's wakes: two leaves, a claim that is none; their digests, reckoned. -/
set_option linter.unusedSimpArgs false
set_option linter.unusedVariables false
set_option linter.unnecessarySimpa false
set_option maxRecDepth 20000
namespace Go.Proofs.YtcdocklbpfdmeaaDoor
open Go.RowKit
def dXL : List UInt8 := [184, 226, 252, 153, 61, 255, 121, 36, 96, 217, 8, 35, 23, 132, 101, 25, 109, 79, 119, 194, 110, 234, 184, 245, 251, 54, 5, 240, 43, 5, 35, 98]
def dAL : List UInt8 := [186, 145, 19, 253, 17, 2, 79, 220, 23, 229, 197, 181, 188, 211, 74, 178, 241, 89, 105, 204, 209, 36, 13, 58, 221, 100, 98, 1, 161, 184, 170, 179]
def dBL : List UInt8 := [7, 95, 243, 59, 211, 38, 10, 232, 216, 49, 171, 26, 227, 104, 61, 119, 195, 239, 140, 82, 155, 154, 198, 119, 35, 74, 85, 231, 127, 119, 94, 10]
theorem dX_lit : sumD [0, 120] = litD dXL := by decide +kernel
theorem dA_lit : sumD [0, 97] = litD dAL := by decide +kernel
theorem dB_lit : sumD [0, 98] = litD dBL := by decide +kernel
theorem dXA_ne : litD dXL ≠ litD dAL := by decide +kernel
theorem nXA_ne : sumD (twoL (litD dXL) zeroD) ≠ sumD (twoL (litD dAL) (litD dBL)) := by
  have h1 : sumD (twoL (litD dXL) zeroD) = litD [12, 122, 58, 126, 52, 53, 97, 243, 40, 46, 32, 113, 66, 70, 116, 46, 251, 142, 84, 167, 100, 176, 144, 136, 2, 250, 160, 47, 213, 230, 131, 252] := by decide +kernel
  have h2 : sumD (twoL (litD dAL) (litD dBL)) = litD [244, 78, 242, 204, 213, 254, 65, 44, 188, 25, 221, 251, 30, 42, 63, 254, 72, 152, 194, 76, 163, 152, 194, 45, 238, 229, 163, 24, 218, 255, 110, 169] := by decide +kernel
  rw [h1, h2]
  decide +kernel
theorem sumW8 : sumW 8 [] = unitD 105 := by decide +kernel
def twoLv : List (List UInt8) := [[97], [98]]
theorem sumW_zero (b : List UInt8) : sumW 0 b = zeroD := dF_inj fun i hi => by
  unfold sumW widD zeroD
  rw [dF_ofF _ _ hi, dF_ofF _ _ hi]
  unfold lowB
  rw [if_pos (by omega)]
theorem climb2 (S : List UInt8 → Dg) : climbC S twoLv 0 [120] [zeroD] none = some (putC S (twoL (S [0, 120]) zeroD) (twoL (S [0, 97]) (S [0, 98])) (putC S [0, 120] [0, 97] none).2) := by
  have h := climbC_lo (S := S) (l := twoLv) (by decide) (i := 0) (by show 0 < splitN 2; rw [split2]; decide) [120] [] zeroD none
  rw [show ([] : List Dg) ++ [zeroD] = [zeroD] from rfl] at h
  rw [h]
  show Option.map _ (climbC S ([[97], [98]].take (splitN 2)) 0 [120] [] none) = _
  show (climbC S ([[97], [98]].take (splitN 2)) 0 [120] [] none).map (fun x => putC S (twoL x.1 zeroD) (twoL (rootC S ([[97], [98]].take (splitN 2))) (rootC S ([[97], [98]].drop (splitN 2)))) x.2) = _
  rw [split2]
  show (climbC S [[97]] 0 [120] [] none).map (fun x => putC S (twoL x.1 zeroD) (twoL (rootC S [[97]]) (rootC S [[98]])) x.2) = _
  rw [climbC_one (by decide), if_pos rfl, rootC_one, rootC_one]
  rfl
theorem root2 (S : List UInt8 → Dg) : rootC S twoLv = S (twoL (S [0, 97]) (S [0, 98])) := by
  rw [rootC_two (by decide)]
  show S (twoL (rootC S ([[97], [98]].take (splitN 2))) (rootC S ([[97], [98]].drop (splitN 2)))) = _
  rw [split2]
  show S (twoL (rootC S [[97]]) (rootC S [[98]])) = _
  rw [rootC_one, rootC_one]
theorem incl_w0 : inclC 0 twoLv 0 [120] [zeroD] = (true, some ([0, 120], [0, 97])) := by
  unfold inclC
  rw [if_pos (by decide)]
  show outC (rootC (sumW 0) twoLv) (climbC (sumW 0) twoLv 0 [120] [zeroD] none) = _
  rw [climb2, root2]
  have h1 : (putC (sumW 0) [0, 120] [0, 97] none).2 = some ([0, 120], [0, 97]) := by
    unfold putC
    rw [if_pos ⟨rfl, by decide, by rw [sumW_zero, sumW_zero]⟩]
  rw [h1]
  unfold outC putC
  simp only [sumW_zero]
  rw [if_neg (by simp)]
  simp
theorem inclT_w0 : inclT 0 twoLv 0 [120] [zeroD] = some ([0, 120], [0, 97]) := by
  unfold inclT
  rw [incl_w0]
  show tellC (true && !decide (([120] : List UInt8) = [97])) (some ([0, 120], [0, 97])) = _
  rw [decide_eq_false (show ¬ ([120] : List UInt8) = [97] by decide)]
  rfl
theorem incl_w256 : (inclC 256 twoLv 0 [120] [zeroD]).1 = false := by
  unfold inclC
  rw [if_pos (by decide)]
  show (outC (rootC (sumW 256) twoLv) (climbC (sumW 256) twoLv 0 [120] [zeroD] none)).1 = _
  rw [climb2, root2, sumW_full (Nat.le_refl _), dX_lit, dA_lit, dB_lit]
  show decide (sumD (twoL (litD dXL) zeroD) = sumD (twoL (litD dAL) (litD dBL))) = false
  exact decide_eq_false nXA_ne
theorem is_w0 : isC 0 [0, 120] [0, 97] = true := by
  unfold isC
  rw [show (0 : Int).toNat = 0 from rfl, sumW_zero, sumW_zero, decide_eq_true rfl, decide_eq_false (show ¬ ([0, 120] : List UInt8) = [0, 97] by decide), show wideB 0 = true by decide]
  rfl
theorem is_w256 : isC 256 [0, 120] [0, 97] = false := by
  unfold isC
  rw [show (256 : Int).toNat = 256 from rfl, sumW_full (Nat.le_refl _), dX_lit, dA_lit, decide_eq_false dXA_ne]
  simp
theorem dg_w8 : (if wideB 8 = true then Value.tuple #[.agg (rowB 32 (dF (sumW (8 : Int).toNat []))), I 0] else .tuple #[.agg (rowB 32 (dF zeroD)), I 2]) = .tuple #[.agg (rowB 32 (dF (unitD 105))), I 0] := by
  rw [if_pos (by decide), show (8 : Int).toNat = 8 from rfl, sumW8]
theorem one_byte {W w' : World} {g : Nat} {z : Int} {t : TypeId} {fr : Nat × Nat} {b : UInt8} (k : Ex (W.alloc (.cells #[.int .u8 z] t fr)) w') (hg : g = W.heap.size) (hz : z = bn b) : SlT w' (.slice (some ⟨g, 0, none⟩) 1 1) [b] := by
  subst hg hz
  refine ⟨_, 1, rfl, Nat.le_refl _, by decide, (fun h => by cases h), SlL.ex (sll_block (heap_alloc_new _ _) fun j hj => ?_) k⟩
  have : j = 0 := by simpa using hj
  subst this; rfl
theorem two_leaves {W w' : World} {g : Nat} {v0 v1 : Value} {t : TypeId} {a b : List UInt8} (k : Ex (W.alloc (.cells #[v0, v1] t)) w') (hg : g = W.heap.size) (h0 : SlT w' v0 a) (h1 : SlT w' v1 b) : SlLs w' (some ⟨g, 0, none⟩) [a, b] := by
  subst hg
  have hb := ex_block k (heap_alloc_new _ _)
  refine ⟨Or.inr ⟨_, 0, rfl, (Array.getElem?_eq_some_iff.1 hb).1, fun i x hx => ?_⟩⟩
  rw [Nat.zero_add, cell_of_row w' W.heap.size i _ _ _ hb]
  have hi : i < 2 := (List.getElem?_eq_some_iff.1 hx).1
  have : i = 0 ∨ i = 1 := by omega
  rcases this with rfl | rfl
  · cases hx; exact ⟨v0, rfl, h0⟩
  · cases hx; exact ⟨v1, rfl, h1⟩
theorem lit105 : (rowB 32 fun _ => 0).setIfInBounds 0 (.int .u8 105) = rowB 32 (dF (unitD 105)) := by kernel_rfl
theorem twoLv_short : ShortL twoLv := fun b hb => by
  have : b = [97] ∨ b = [98] := by simpa [twoLv] using hb
  rcases this with rfl | rfl <;> decide
theorem sld_zero {W w' : World} {g : Nat} (k : Ex (W.alloc (.cells (rowB 32 fun _ => 0) 46)) w') (hg : g = W.heap.size) : SlD w' (some ⟨g, 0, none⟩) [zeroD] := by
  rw [← row_zeroC] at k
  exact sld_one zeroD k hg
abbrev wkC (w : World) : World := (((((w.alloc (.cells #[.int .u8 97] 5 (1, 2))).alloc (.cells #[.int .u8 98] 5 (1, 2))).alloc (.cells #[.slice (some ⟨w.heap.size, 0, none⟩) 1 1, .slice (some ⟨w.heap.size + 1, 0, none⟩) 1 1] 35)).alloc (.cells #[.int .u8 120] 5 (1, 2))).alloc (.cells (rowB 32 fun _ => 0) 46)).alloc (.cells #[.int .i64 0, .slice (some ⟨w.heap.size + 1 + 1 + 1, 0, none⟩) 1 1, .slice (some ⟨w.heap.size + 1 + 1 + 1 + 1, 0, none⟩) 1 1] 67)
theorem wkC_mem (w w2 : World) (k : Ex (wkC w) w2) : SlLs w2 (some ⟨w.heap.size + 1 + 1, 0, none⟩) twoLv ∧ SlT w2 (.slice (some ⟨w.heap.size + 1 + 1 + 1, 0, none⟩) 1 1) [120] ∧ SlD w2 (some ⟨w.heap.size + 1 + 1 + 1 + 1, 0, none⟩) [zeroD] ∧
    cellsN w2 (w.heap.size + 1 + 1 + 1 + 1 + 1) 0 3 = some #[.int .i64 0, .slice (some ⟨w.heap.size + 1 + 1 + 1, 0, none⟩) 1 1, .slice (some ⟨w.heap.size + 1 + 1 + 1 + 1, 0, none⟩) 1 1] ∧ w.heap.size + 1 + 1 + 1 + 1 + 1 < w2.heap.size := by
  have k0 : Ex (wkC w) (wkC w) := ex_refl _
  have b5 := ex_block k (heap_alloc_new ((((((w.alloc (.cells #[.int .u8 97] 5 (1, 2))).alloc (.cells #[.int .u8 98] 5 (1, 2))).alloc (.cells #[.slice (some ⟨w.heap.size, 0, none⟩) 1 1, .slice (some ⟨w.heap.size + 1, 0, none⟩) 1 1] 35)).alloc (.cells #[.int .u8 120] 5 (1, 2))).alloc (.cells (rowB 32 fun _ => 0) 46))) _)
  simp only [World.size_alloc] at b5
  refine ⟨SlLs.ex (two_leaves (t := 35) (g := w.heap.size + 1 + 1) (w' := wkC w) (by (try show Ex _ _); with_reducible repeat (first | exact ex_refl _ | assumption | refine ex_drewL ?_ | refine ex_appR ?_ _ | refine ex_wx ?_ _ | refine ex_drew ?_ | refine ex_alloc ?_ _)) (by simp only [World.size_alloc]) (one_byte (z := 97) (fr := (1, 2)) (t := 5) (W := w) (by (try show Ex _ _); with_reducible repeat (first | exact ex_refl _ | assumption | refine ex_drewL ?_ | refine ex_appR ?_ _ | refine ex_wx ?_ _ | refine ex_drew ?_ | refine ex_alloc ?_ _)) rfl (by rfl)) (one_byte (z := 98) (fr := (1, 2)) (t := 5) (W := w.alloc (.cells #[.int .u8 97] 5 (1, 2))) (by (try show Ex _ _); with_reducible repeat (first | exact ex_refl _ | assumption | refine ex_drewL ?_ | refine ex_appR ?_ _ | refine ex_wx ?_ _ | refine ex_drew ?_ | refine ex_alloc ?_ _)) (by simp only [World.size_alloc]) (by rfl))) k,
    SlT.ex (one_byte (z := 120) (fr := (1, 2)) (t := 5) (w' := wkC w) (by (try show Ex _ _); with_reducible repeat (first | exact ex_refl _ | assumption | refine ex_drewL ?_ | refine ex_appR ?_ _ | refine ex_wx ?_ _ | refine ex_drew ?_ | refine ex_alloc ?_ _)) (by simp only [World.size_alloc]) (by rfl)) k, SlD.ex (sld_zero (w' := wkC w) (by (try show Ex _ _); with_reducible repeat (first | exact ex_refl _ | assumption | refine ex_drewL ?_ | refine ex_appR ?_ _ | refine ex_wx ?_ _ | refine ex_drew ?_ | refine ex_alloc ?_ _)) (by simp only [World.size_alloc])) k, (block_cellsF (n := 3) b5 rfl).1, (Array.getElem?_eq_some_iff.1 b5).1⟩
set_option maxHeartbeats 4000000 in
theorem wakesC_any (w : World) (G : Glob w) : Calls Tryd.prog 11 #[] w (Post w (.bool true)) := by
  have kc : ∀ (W : World) (C : Array Value) (g n c : Nat), g = W.heap.size → (convert 35 35 (.slice (some ⟨g, 0, none⟩) n c)).run Tryd.prog (W.alloc (.cells C 5)) = .ok (.slice (some ⟨g, 0, none⟩) n c) (W.alloc (.cells C 5 (C.size, C.size + 1))) := by
    rintro W C g n c rfl
    exact Lib.run_convert_bytes_const W _ _ C n c Tryd.underlying35 Tryd.underlying5
  have HI : Hid (∀ la bv pa w', Ex w w' → SlLs w' la twoLv → SlT w' bv [120] → SlD w' pa [zeroD] → Calls Tryd.prog 31 #[I 0, .slice la 2 2, .agg #[I 0, bv, .slice pa 1 1]] w' (fun e w2 => ∃ sa sb, e = .returned (.tuple #[.agg #[sa, sb], .bool true]) ∧ Ex w' w2 ∧ OwnU w2 sa [0, 120] ∧ OwnU w2 sb [0, 97])) := Lib.hid fun la bv pa w' k h1 h2 h3 => by
    have hb1 : bv.oneCell' = true := by obtain ⟨_, _, rfl, _⟩ := h2.out; rfl
    have := include_any G 0 (b := [120]) (by decide) (bv := bv) twoLv la 2 0 [zeroD] pa 1 w' (by decide) (by decide) (fun _ => ⟨h1, twoLv_short⟩) hb1 (fun _ => h2) (by decide) (by decide) h3 k
    rw [inclT_w0] at this
    exact this
  have HIn : Hid (∀ la bv pa w', Ex w w' → SlLs w' la twoLv → SlT w' bv [120] → SlD w' pa [zeroD] → Calls Tryd.prog 33 #[I 256, .slice la 2 2, .agg #[I 0, bv, .slice pa 1 1]] w' (Post w' (.bool false))) := Lib.hid fun la bv pa w' k h1 h2 h3 => by
    have hb1 : bv.oneCell' = true := by obtain ⟨_, _, rfl, _⟩ := h2.out; rfl
    have := includes_bc (w := w') 256 (.slice la 2 2) (.agg #[I 0, bv, .slice pa 1 1]) (inclC 256 twoLv 0 [120] [zeroD]) ⟨_, _, _, rfl, hb1, rfl⟩ (fun w2 k2 => included_any G 256 (b := [120]) (by decide) (bv := bv) twoLv la 2 0 [zeroD] pa 1 w2 (by decide) (by decide) (fun _ => ⟨h1.ex k2, twoLv_short⟩) hb1 (fun _ => h2.ex k2) (by decide) (by decide) (h3.ex k2) (ex_trans k k2))
    rw [incl_w256] at this
    exact this
  have HDg : Hid (∀ w', Ex w w' → Calls Tryd.prog 23 #[I 8, .slice none 0 0] w' (Post w' (.tuple #[.agg (rowB 32 (dF (unitD 105))), I 0]))) := Lib.hid fun w' k => by
    have := wdigest_any G 8 k (slt_nil w') (by simp)
    rwa [dg_w8] at this
  have HIs0 : Hid (∀ w' sa sb, Ex w w' → OwnU w' sa [0, 120] → OwnU w' sb [0, 97] → Calls Tryd.prog 16 #[I 0, .agg #[sa, sb]] w' (Post w' (.bool true))) := Lib.hid fun w' sa sb k h1 h2 => by
    have := wis_any G 0 k h1.slt h2.slt (by simp) (by simp)
    rwa [is_w0] at this
  have HIs1 : Hid (∀ w' sa sb, Ex w w' → OwnU w' sa [0, 120] → OwnU w' sb [0, 97] → Calls Tryd.prog 16 #[I 256, .agg #[sa, sb]] w' (Post w' (.bool false))) := Lib.hid fun w' sa sb k h1 h2 => by
    have := wis_any G 256 k h1.slt h2.slt (by simp) (by simp)
    rwa [is_w256] at this
  have Hmem := Lib.hid (wkC_mem w)
  have hE := eqF_same (dF (unitD 105)) 32
  have hlit := lit105
  generalize unitD 105 = d8 at *
  go_enter Tryd.func11, Tryd.ntmps11
  go_wp2_with (first | (go_at_call 31; (refine (HI.out _ _ _ _ (by (try show Ex _ _); with_reducible repeat (first | exact ex_refl _ | assumption | refine ex_drewL ?_ | refine ex_appR ?_ _ | refine ex_wx ?_ _ | refine ex_drew ?_ | refine ex_alloc ?_ _)) (Hmem.out _ (ex_refl _)).1 (Hmem.out _ (ex_refl _)).2.1 (Hmem.out _ (ex_refl _)).2.2.1).mono ?_); rintro e w2 ⟨sa, sb, rfl, k2, hA, hB⟩; dsimp only; obtain ⟨aa, ac, hsa, _⟩ := hA.slt.out; change sa = .slice aa 2 ac at hsa; subst hsa; obtain ⟨ba, bc, hsb, _⟩ := hB.slt.out; change sb = .slice ba 2 bc at hsb; subst hsb; have kw2 : Ex w w2 := ex_trans (show Ex w (wkC w) from (by (try show Ex _ _); with_reducible repeat (first | exact ex_refl _ | assumption | refine ex_drewL ?_ | refine ex_appR ?_ _ | refine ex_wx ?_ _ | refine ex_drew ?_ | refine ex_alloc ?_ _))) k2; replace k2 : Hid (Ex (wkC w) w2) := Lib.hid k2; replace hA := Lib.hid hA; replace hB := Lib.hid hB) | (go_at_call 23; (with_reducible refine (HDg.out _ (ex_trans kw2 (by (try show Ex _ _); with_reducible repeat (first | exact ex_refl _ | assumption | refine ex_drewL ?_ | refine ex_appR ?_ _ | refine ex_wx ?_ _ | refine ex_drew ?_ | refine ex_alloc ?_ _)))).mono ?_); rintro e w3 ⟨rfl, k3⟩; dsimp only; have k3 : Ex _ _ := k3; have k23 : Ex w2 w3 := ex_trans (by (try show Ex _ _); with_reducible repeat (first | exact ex_refl _ | assumption | refine ex_drewL ?_ | refine ex_appR ?_ _ | refine ex_wx ?_ _ | refine ex_drew ?_ | refine ex_alloc ?_ _)) k3; have b3 := ex_block k3 (heap_alloc_new w2 _); obtain ⟨n3, f3, z3⟩ := block_cellsF (n := 2) b3 rfl; have c30 := (block_cellF (o := 0) b3 rfl).1; have c31 := (block_cellF (o := 1) b3 rfl).1; have hA3 := hA.out.ex k23; have hB3 := hB.out.ex k23; have hcv0 := fun o => conv_slt (hA3.slt.ex (ex_alloc (ex_refl w3) o)); have hcv1 := fun o => conv_slt (hB3.slt.ex (ex_alloc (ex_refl w3) o)); obtain ⟨m1, m2, m3, m4, m5⟩ := Hmem.out w3 (ex_trans k2.out k23); have kw3 : Ex w w3 := ex_trans kw2 k23; replace hA3 := Lib.hid hA3; replace hB3 := Lib.hid hB3; replace m1 := Lib.hid m1; replace m2 := Lib.hid m2; replace m3 := Lib.hid m3; replace b3 := Lib.hid b3; replace k23 := Lib.hid k23; replace k3 := Lib.hid k3) | (go_at_call 16; (with_reducible refine (HIs0.out _ _ _ (ex_trans kw3 (by (try show Ex _ _); with_reducible repeat (first | exact ex_refl _ | assumption | refine ex_drewL ?_ | refine ex_appR ?_ _ | refine ex_wx ?_ _ | refine ex_drew ?_ | refine ex_alloc ?_ _))) (hA3.out.ex (by (try show Ex _ _); with_reducible repeat (first | exact ex_refl _ | assumption | refine ex_drewL ?_ | refine ex_appR ?_ _ | refine ex_wx ?_ _ | refine ex_drew ?_ | refine ex_alloc ?_ _))) (hB3.out.ex (by (try show Ex _ _); with_reducible repeat (first | exact ex_refl _ | assumption | refine ex_drewL ?_ | refine ex_appR ?_ _ | refine ex_wx ?_ _ | refine ex_drew ?_ | refine ex_alloc ?_ _)))).mono ?_); rintro e w4 ⟨rfl, X4, rfl⟩) | (go_at_call 16; (with_reducible refine (HIs1.out _ _ _ (ex_trans kw3 (by (try show Ex _ _); with_reducible repeat (first | exact ex_refl _ | assumption | refine ex_drewL ?_ | refine ex_appR ?_ _ | refine ex_wx ?_ _ | refine ex_drew ?_ | refine ex_alloc ?_ _))) (hA3.out.ex (by (try show Ex _ _); with_reducible repeat (first | exact ex_refl _ | assumption | refine ex_drewL ?_ | refine ex_appR ?_ _ | refine ex_wx ?_ _ | refine ex_drew ?_ | refine ex_alloc ?_ _))) (hB3.out.ex (by (try show Ex _ _); with_reducible repeat (first | exact ex_refl _ | assumption | refine ex_drewL ?_ | refine ex_appR ?_ _ | refine ex_wx ?_ _ | refine ex_drew ?_ | refine ex_alloc ?_ _)))).mono ?_); rintro e w4 ⟨rfl, X5, rfl⟩) | (go_at_call 33; (with_reducible refine (HIn.out _ _ _ _ (ex_trans kw3 (by (try show Ex _ _); with_reducible repeat (first | exact ex_refl _ | assumption | refine ex_drewL ?_ | refine ex_appR ?_ _ | refine ex_wx ?_ _ | refine ex_drew ?_ | refine ex_alloc ?_ _))) (m1.out.ex (by (try show Ex _ _); with_reducible repeat (first | exact ex_refl _ | assumption | refine ex_drewL ?_ | refine ex_appR ?_ _ | refine ex_wx ?_ _ | refine ex_drew ?_ | refine ex_alloc ?_ _))) (m2.out.ex (by (try show Ex _ _); with_reducible repeat (first | exact ex_refl _ | assumption | refine ex_drewL ?_ | refine ex_appR ?_ _ | refine ex_wx ?_ _ | refine ex_drew ?_ | refine ex_alloc ?_ _))) (m3.out.ex (by (try show Ex _ _); with_reducible repeat (first | exact ex_refl _ | assumption | refine ex_drewL ?_ | refine ex_appR ?_ _ | refine ex_wx ?_ _ | refine ex_drew ?_ | refine ex_alloc ?_ _)))).mono ?_); rintro e w4 ⟨rfl, X6, rfl⟩))
  go_ret
  exact post_mk rfl (ex_trans kw3 (by (try show Ex _ _); with_reducible repeat (first | exact ex_refl _ | assumption | refine ex_drewL ?_ | refine ex_appR ?_ _ | refine ex_wx ?_ _ | refine ex_drew ?_ | refine ex_alloc ?_ _)))
end Go.Proofs.YtcdocklbpfdmeaaDoor
