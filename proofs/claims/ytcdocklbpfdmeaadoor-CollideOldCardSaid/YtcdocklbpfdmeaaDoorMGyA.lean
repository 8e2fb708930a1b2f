import Derived.Test.YtcdocklbpfdmeaaDoorMGwJ
import Derived.Test.YtcdocklbpfdmeaaDoorMRtA

/- CollideOld: the law. -/
set_option linter.unusedSimpArgs false
set_option linter.unusedVariables false
set_option linter.unnecessarySimpa false
set_option maxRecDepth 20000
namespace Go.Proofs.YtcdocklbpfdmeaaDoor
open Go.RowKit
theorem info_listY : (Tryd.prog.info? 63).map (·.size) = some 2 := by kernel_rfl
@[go_sem] theorem load_listY (b o : Nat) (w : World) : loadRun Tryd.prog 63 (.pointer (some ⟨b, o, none⟩)) w = match cellsN w b o 2 with | some cs => .ok (.value (.agg cs)) w | none => loadRaw Tryd.prog 63 (.pointer (some ⟨b, o, none⟩)) w := loadRun_row Tryd.underlying63 rfl info_listY b o w
@[go_sem] theorem store_listY (b o : Nat) (vs : Array Value) (w : World) : storeRun Tryd.prog 63 (.pointer (some ⟨b, o, none⟩)) (.agg vs) w = if (vs.size == 2 && (cellsN w b o 2).isSome && !frozenN w b o 2 && oneCells vs) = true then .ok .skip (w.setCells b o vs.toList) else storeRaw Tryd.prog 63 (.pointer (some ⟨b, o, none⟩)) (.agg vs) w := storeRun_row info_listY b o vs w
set_option maxHeartbeats 2000000 in
theorem cold_any (W : Int) (l : List (List UInt8)) (a : Option Addr) (c : Nat) (j : Int) (old : Dg) (pa : Option Addr) (path : List Dg) (pc : Nat) (w : World) (G : Glob w) (hc : l.length ≤ c) (hcm : c ≤ maxLen) (hs : SlLs w a l) (hpc : path.length ≤ pc) (hpm : pc ≤ maxLen) (hpn : pa = none → pc = 0) (hpath : SlD w pa path) :
    Calls Tryd.prog 10 #[.agg #[I W, .slice a l.length c], .agg (growR j old (.slice pa path.length pc))] w (Post w (.bool true)) := by
  have HWk := Lib.hid fun w' (k : Ex w w') => wakesC_any w' (G.ex k)
  have HLv := Lib.hid fun w' (k : Ex w w') => leaves_any W l a c w' hc hcm (hs.ex k)
  have hsh := Lib.hid (lvL_short l)
  have hll := lvL_len l
  have HC := Lib.hid fun w' (k : Ex w w') => growth_any j old path pa pc w' hpc hpm hpn (hpath.ex k)
  unfold PostGm at HC
  generalize path.take 12 = p9 at HC
  generalize path.length = pn at *
  generalize lvL l = lv at HLv hsh hll
  generalize l.length = n at *
  unfold maxLen at hcm hpm
  clear hpath hs
  go_enter Tryd.func10, Tryd.ntmps10
  go_wp2_with (first | (go_at_call 11; (with_reducible refine (HWk.out _ (by (try show Ex _ _); repeat (first | (with_reducible exact ex_refl _) | (with_reducible assumption) | (with_reducible refine ex_drewL ?_) | (with_reducible refine ex_appR ?_ _) | (with_reducible refine ex_wx ?_ _) | (with_reducible refine ex_drew ?_) | (with_reducible refine ex_alloc ?_ _)))).mono ?_); rintro e w2 ⟨rfl, X, rfl⟩) | (go_at_call 28; (with_reducible refine (HLv.out _ (by (try show Ex _ _); repeat (first | (with_reducible exact ex_refl _) | (with_reducible assumption) | (with_reducible refine ex_drewL ?_) | (with_reducible refine ex_appR ?_ _) | (with_reducible refine ex_wx ?_ _) | (with_reducible refine ex_drew ?_) | (with_reducible refine ex_alloc ?_ _)))).mono ?_); rintro e B ⟨ov, rfl, hO, X2, rfl⟩; (try simp only [wx_wx, wx_drew] at hO); obtain ⟨la, lc, rfl, hl1, hl2, hl3, _⟩ := hO.sl; replace hO := Lib.hid hO) | (go_at_call 37; (with_reducible refine (HC.out _ (by (try show Ex _ _); repeat (first | (with_reducible exact ex_refl _) | (with_reducible assumption) | (with_reducible refine ex_drewL ?_) | (with_reducible refine ex_appR ?_ _) | (with_reducible refine ex_wx ?_ _) | (with_reducible refine ex_drew ?_) | (with_reducible refine ex_alloc ?_ _)))).mono ?_); rintro e w' ⟨v2, rfl, h2, X3, rfl⟩; (try simp only [wx_wx, wx_drew] at h2); obtain ⟨a3, c3, rfl, _⟩ := h2.slg; replace h2 := Lib.hid (show ∃ Z, OwnD _ Z _ _ from ⟨_, h2⟩)))
  obtain ⟨A1, hA1⟩ : ∃ A1, (w.alloc (.cells #[I W, .slice a n c] 63)).alloc (.cells (growR j old (.slice a3 p9.length c3)) 79) = A1 := ⟨_, rfl⟩
  obtain ⟨B, hB⟩ : ∃ B, wx A1 ((X.app X2).app X3) = B := ⟨_, rfl⟩
  have hAB : Ex A1 B := ⟨_, hB.symm⟩
  have hwA : Ex w A1 := by rw [← hA1]; exact (by (try show Ex _ _); repeat (first | (with_reducible exact ex_refl _) | (with_reducible assumption) | (with_reducible refine ex_drewL ?_) | (with_reducible refine ex_appR ?_ _) | (with_reducible refine ex_wx ?_ _) | (with_reducible refine ex_drew ?_) | (with_reducible refine ex_alloc ?_ _)))
  have hwB : Hid (Ex w B) := Lib.hid (ex_trans hwA hAB)
  have HL : Hid (SlLs B la lv) := Lib.hid (by
    have h := hO.out.kt (w' := B) (by rw [← hB, ← hA1]; exact (by repeat (first | (with_reducible exact Kt.refl _) | (with_reducible refine Kt.ofSt ?_; ((repeat (first | (with_reducible exact St.refl _) | (with_reducible refine St.wx ?_ _) | (with_reducible refine St.alloc ?_ _) | (with_reducible refine St.turn ?_ (by decide)))); done)) | (with_reducible refine Kt.allocR ?_ _) | (with_reducible refine Kt.appR ?_ _) | (with_reducible refine Kt.wxR ?_ _))))
    obtain ⟨_, _, hv, _, _, _, h⟩ := h.sl
    cases hv
    exact h)
  have HCm : Hid (∃ Z, OwnD B Z (.slice a3 p9.length c3) p9) := Lib.hid (h2.out.elim fun Z h => ⟨Z, h.kt (by rw [← hB, ← hA1]; exact (by repeat (first | (with_reducible exact Kt.refl _) | (with_reducible refine Kt.ofSt ?_; ((repeat (first | (with_reducible exact St.refl _) | (with_reducible refine St.wx ?_ _) | (with_reducible refine St.alloc ?_ _) | (with_reducible refine St.turn ?_ (by decide)))); done)) | (with_reducible refine Kt.allocR ?_ _) | (with_reducible refine Kt.appR ?_ _) | (with_reducible refine Kt.wxR ?_ _))))⟩)
  have hb2 : A1.heap[w.heap.size]? = some (.cells #[I W, .slice a n c] 63 (0, 0)) := by
    rw [← hA1]; exact ex_block (ex_alloc (ex_refl _) _) (heap_alloc_new w _)
  have hb3 : A1.heap[w.heap.size + 1]? = some (.cells (growR j old (.slice a3 p9.length c3)) 79 (0, 0)) := by
    rw [← hA1, ← World.size_alloc w (.cells #[I W, .slice a n c] 63)]; exact heap_alloc_new _ _
  replace hb2 := ex_block hAB hb2
  replace hb3 := ex_block hAB hb3
  rw [hA1, hB]
  clear hA1 hB hwA hAB hO h2 HWk HLv HC
  obtain ⟨p, hp⟩ : ∃ p, w.heap.size = p := ⟨_, rfl⟩
  obtain ⟨q, hq⟩ : ∃ q, w.heap.size + 1 = q := ⟨_, rfl⟩
  rw [hq] at hb3 ⊢
  rw [hp] at hb2 ⊢
  clear hp hq
  have p2 := (block_cellsF (n := 2) hb2 rfl).1
  have p20 := (block_cellF (o := 0) (v := I W) hb2 rfl).1
  obtain ⟨q30, q31, q32, zq⟩ := growR_block hb3
  have q3 := (block_cellsF (n := 34) hb3 (growR_size _ _ _)).1
  have zp := cell_lt p20
  clear hb2 hb3
  have HIn : Hid (∀ (V : Int) w', Ex B w' → Calls Tryd.prog 41 #[I V, .slice la lv.length lc, .agg (growR j old (.slice a3 p9.length c3))] w' (Post w' (.bool (extC V lv j old p9).1))) := Lib.hid fun V w' k => by
    obtain ⟨Z, h2⟩ := HCm.out
    obtain ⟨_, _, hv, h3, h4, _, h5⟩ := h2.slg
    cases hv
    exact extends_bc V _ j old _ rfl _ fun w2 k2 => extended_any G V lv la lc j old p9 a3 c3 w2 hl1 hl2 (fun _ => ⟨HL.out.ex (ex_trans k k2), hsh.out⟩) h3 h4 (h5.ex (ex_trans k k2)) (ex_trans hwB.out (ex_trans k k2))
  have HI : Hid (∀ w', Ex B w' → Calls Tryd.prog 39 #[I W, .slice la lv.length lc, .agg (growR j old (.slice a3 p9.length c3))] w' (PostClT w' (extT W lv j old p9))) := Lib.hid fun w' k => by
    obtain ⟨Z, h2⟩ := HCm.out
    obtain ⟨_, _, hv, h3, h4, _, h5⟩ := h2.slg
    cases hv
    exact extendT_any G W lv la lc j old p9 a3 c3 w' hl1 hl2 (fun _ => ⟨HL.out.ex k, hsh.out⟩) h3 h4 (h5.ex k) (ex_trans hwB.out k)
  have HRo : Hid ((extC W lv j old p9).1 = true → ∃ g off, la = some ⟨g, off, none⟩ ∧ 1 ≤ j ∧ j ≤ lv.length ∧ j ≤ lc ∧ ∀ w', Ex B w' → Calls Tryd.prog 42 #[I W, .slice la j.toNat lc] w' (Post w' (.tuple #[.agg (rowB 32 (dF (rootC (sumW W.toNat) (lv.take j.toNat)))), I 0]))) := Lib.hid fun h => by
    obtain ⟨g1, g2, g3, g4, g5⟩ := ext_true h
    obtain ⟨g, off, hla, _⟩ := HL.out.pos (by omega)
    refine ⟨g, off, hla, g2, g3, by omega, fun w' k => ?_⟩
    have := wRoot_any G W (lv.take j.toNat) la lc w' (by rw [List.length_take]; omega) hl2 (fun _ => ⟨(HL.out.take _).ex k, fun b hb => hsh.out b (List.mem_of_mem_take hb)⟩) (ex_trans hwB.out k)
    rw [show (lv.take j.toNat).length = j.toNat by rw [List.length_take]; omega] at this
    unfold rootV at this
    rw [if_neg (show ¬ wideB W = false by rw [show wideB W = true from decide_eq_true ⟨g4, g5⟩]; decide), if_neg (by rw [List.length_take]; omega)] at this
    exact this
  have F1 := Lib.hid fun x => extT_is (W := W) (l := lv) (m := j) (old := old) (proof := p9) (x := x)
  have F2 := Lib.hid (ext_so (W := W) (l := lv) (m := j) (old := old) (proof := p9))
  have HIn1 := Lib.hid fun w' => HIn.out W w'
  generalize extC W lv j old p9 = r at HIn1 F1 F2 HRo
  obtain ⟨r, rc⟩ := r
  simp only at HIn1 F1 F2 HRo
  generalize extT W lv j old p9 = o at HI F1 F2
  generalize rootC (sumW W.toNat) (lv.take j.toNat) = R0 at HRo F2
  obtain ⟨N, hN⟩ : ∃ N, lv.length = N := ⟨_, rfl⟩
  have HN : Hid (lv.length = N) := Lib.hid hN
  rw [hN] at hll hl1 HIn HIn1 HI HRo ⊢
  clear hN
  have HI6 : Hid (∀ w', Ex B w' → Calls Tryd.prog 41 #[I 256, .slice la N lc, .agg (growR j old (.slice a3 p9.length c3))] w' (Post w' (.bool (decide (RootsD j N old p9 = some (old, rootD (lv.map leafD))))))) := Lib.hid fun w' h => by
    have := HIn.out 256 w' h
    rwa [ext_hist (by have := HN.out; omega), HN.out] at this
  cases o with
  | some x =>
    obtain ⟨hr, hx1, hx2, hx3⟩ := F1.out x rfl
    subst hr
    have HIs : Hid (∀ w' sa sb, Ex B w' → ClS w' sa sb (some x) → Calls Tryd.prog 16 #[I W, .agg #[sa, sb]] w' (Post w' (.bool true))) := Lib.hid fun w' sa sb k h => by
      have := wis_any G W (ex_trans hwB.out k) h.1.slt h.2.slt (by omega) (by omega)
      rwa [hx1] at this
    obtain ⟨g, off, hla, hj1, hj2, hj3, HRo'⟩ := HRo.out rfl
    subst hla
    have hj0 : 0 ≤ j := by omega
    have HRo2 := Lib.hid HRo'
    clear HRo HRo'
    unfold maxLen at hl2
    go_wp2_with (first | (go_at_call 41; (with_reducible refine (HIn1.out _ (by (try show Ex _ _); repeat (first | (with_reducible exact ex_refl _) | (with_reducible assumption) | (with_reducible refine ex_drewL ?_) | (with_reducible refine ex_appR ?_ _) | (with_reducible refine ex_wx ?_ _) | (with_reducible refine ex_drew ?_) | (with_reducible refine ex_alloc ?_ _)))).mono ?_); rintro e w' ⟨rfl, X4, rfl⟩) | (go_at_call 39; (with_reducible refine (HI.out _ (by (try show Ex _ _); repeat (first | (with_reducible exact ex_refl _) | (with_reducible assumption) | (with_reducible refine ex_drewL ?_) | (with_reducible refine ex_appR ?_ _) | (with_reducible refine ex_wx ?_ _) | (with_reducible refine ex_drew ?_) | (with_reducible refine ex_alloc ?_ _)))).mono ?_); rintro e w' ⟨sa, sb, rfl, ⟨X5, rfl⟩, hcs⟩; (try simp only [wx_wx, wx_drew] at hcs); obtain ⟨s1, s2⟩ := hcs.one; replace hcs := Lib.hid hcs) | (go_at_call 16; (with_reducible refine (HIs.out _ _ _ (by (try show Ex _ _); repeat (first | (with_reducible exact ex_refl _) | (with_reducible assumption) | (with_reducible refine ex_drewL ?_) | (with_reducible refine ex_appR ?_ _) | (with_reducible refine ex_wx ?_ _) | (with_reducible refine ex_drew ?_) | (with_reducible refine ex_alloc ?_ _))) (hcs.out.ex (by (try show Ex _ _); repeat (first | (with_reducible exact ex_refl _) | (with_reducible assumption) | (with_reducible refine ex_drewL ?_) | (with_reducible refine ex_appR ?_ _) | (with_reducible refine ex_wx ?_ _) | (with_reducible refine ex_drew ?_) | (with_reducible refine ex_alloc ?_ _))))).mono ?_); rintro e w' ⟨rfl, X5b, rfl⟩))
    refine wp_region_forkJ (B) (.look 0 (.look 1 (.look 2 (.look 3 (.look 4 (.look 5 (.fork 6 (.look 7 (.look 8 (.look 9 (.eff 10 (.eff 11 (.look 12 .done)))))) 10 (.eff 6 (.look 7 (.look 8 (.look 9 (.eff 11 (.look 12 .done))))))))))))) (by (try show Ex _ _); repeat (first | (with_reducible exact ex_refl _) | (with_reducible assumption) | (with_reducible refine ex_drewL ?_) | (with_reducible refine ex_appR ?_ _) | (with_reducible refine ex_wx ?_ _) | (with_reducible refine ex_drew ?_) | (with_reducible refine ex_alloc ?_ _))) (by kernel_rfl) (by kernel_rfl) (fun _ _ d _ _ h => by cases d <;> exact h) ?_
    simp only [Fj.ops, nth]
    repeat (first | ((with_reducible refine wpForkJ_look ?_); go_big_quiet_step (fail); (try (with_reducible refine wpQuiet_nil ?_))) | (with_reducible refine wpForkJ_eff ?_) | ((with_reducible refine effT_F ?_ ?_); (focus rfl); go_simp) | ((with_reducible refine effT_T ?_ ?_); (focus rfl); (try dsimp only); go_wp2_with ((go_at_call 42; (with_reducible refine (HRo2.out _ (by (try show Ex _ _); repeat (first | (with_reducible exact ex_refl _) | (with_reducible assumption) | (with_reducible refine ex_drewL ?_) | (with_reducible refine ex_appR ?_ _) | (with_reducible refine ex_wx ?_ _) | (with_reducible refine ex_drew ?_) | (with_reducible refine ex_alloc ?_ _)))).mono ?_); rintro e w' ⟨rfl, X5c, rfl⟩)); refine mixQ_mk (by (try show Ex _ _); repeat (first | (with_reducible exact ex_refl _) | (with_reducible assumption) | (with_reducible refine ex_drewL ?_) | (with_reducible refine ex_appR ?_ _) | (with_reducible refine ex_wx ?_ _) | (with_reducible refine ex_drew ?_) | (with_reducible refine ex_alloc ?_ _))) ?_))
    all_goals (try (first | (with_reducible refine wpForkJ_fork ?_ ?_) | (with_reducible refine wpForkJ_three ?_ ?_ ?_)))
    all_goals repeat (first | ((with_reducible refine wpForkJ_look ?_); go_big_quiet_step (fail); (try (with_reducible refine wpQuiet_nil ?_))) | (with_reducible refine wpForkJ_eff ?_) | ((with_reducible refine effT_F ?_ ?_); (focus rfl); go_simp) | ((with_reducible refine effT_T ?_ ?_); (focus rfl); (try dsimp only); go_wp2_with ((go_at_call 42; (with_reducible refine (HRo2.out _ (by (try show Ex _ _); repeat (first | (with_reducible exact ex_refl _) | (with_reducible assumption) | (with_reducible refine ex_drewL ?_) | (with_reducible refine ex_appR ?_ _) | (with_reducible refine ex_wx ?_ _) | (with_reducible refine ex_drew ?_) | (with_reducible refine ex_alloc ?_ _)))).mono ?_); rintro e w' ⟨rfl, X5c, rfl⟩)); refine mixQ_mk (by (try show Ex _ _); repeat (first | (with_reducible exact ex_refl _) | (with_reducible assumption) | (with_reducible refine ex_drewL ?_) | (with_reducible refine ex_appR ?_ _) | (with_reducible refine ex_wx ?_ _) | (with_reducible refine ex_drew ?_) | (with_reducible refine ex_alloc ?_ _))) ?_))
    all_goals (with_reducible refine wpForkJ_nil ?_)
    all_goals
      go_wp2
      go_loopw [11, 72] (fun v i W' => ∃ k : Nat, k ≤ N ∧ i = I k ∧ Hid (OwnD W' B.heap.size v ((lv.take k).map leafD)) ∧ Ex B W') (fun _ i _ => N - (intOf i).toNat)
      case atStart => exact ⟨0, by omega, rfl, Lib.hid (ownd_nil _ _), (by (try show Ex _ _); repeat (first | (with_reducible exact ex_refl _) | (with_reducible assumption) | (with_reducible refine ex_drewL ?_) | (with_reducible refine ex_appR ?_ _) | (with_reducible refine ex_wx ?_ _) | (with_reducible refine ex_drew ?_) | (with_reducible refine ex_alloc ?_ _)))⟩
      case round =>
        obtain ⟨k, hk, rfl, HO, ⟨X6, rfl⟩⟩ := hrel
        by_cases hlt : k < N
        · obtain ⟨g, off, hla, hg, hcell⟩ := HL.out.pos (by rw [HN.out]; omega)
          cases hla
          obtain ⟨b2, hb2⟩ : ∃ b2, lv[k]? = some b2 := ⟨_, List.getElem?_eq_getElem (by rw [HN.out]; omega)⟩
          obtain ⟨bv2, hc1, hb1⟩ := hcell k b2 hb2
          have HLf : Hid (∀ w', Ex B w' → Calls Tryd.prog 47 #[bv2] w' (Post w' (.agg (rowB 32 (dF (leafD b2)))))) := Lib.hid fun w' k => leafT_any (by have := hsh.out b2 (List.mem_of_getElem? hb2); omega) w' (hb1.ex k) (G.ex (ex_trans hwB.out k))
          have HT : Hid ((lv.take (k + 1)).map leafD = (lv.take k).map leafD ++ [leafD b2]) := Lib.hid (by
            obtain ⟨h1, h2⟩ := List.getElem?_eq_some_iff.1 hb2
            rw [List.take_succ_eq_append_getElem h1, List.map_append, h2]; rfl)
          have hlk : ((lv.take k).map leafD).length ≤ 16 := by rw [List.length_map, List.length_take]; omega
          obtain ⟨va, vc, rfl, _⟩ := hb1.out
          generalize leafD b2 = z at HLf HT
          clear hcell hb1 hb2
          go_wp2_with (first | (go_at_call 47; (with_reducible refine (HLf.out _ (by (try show Ex _ _); repeat (first | (with_reducible exact ex_refl _) | (with_reducible assumption) | (with_reducible refine ex_drewL ?_) | (with_reducible refine ex_appR ?_ _) | (with_reducible refine ex_wx ?_ _) | (with_reducible refine ex_drew ?_) | (with_reducible refine ex_alloc ?_ _)))).mono ?_); rintro e w' ⟨rfl, X7, rfl⟩) | (at_builtin; refine wpAppD (r := [z]) _ _ rfl rfl (HO.out.ex (by (try show Ex _ _); repeat (first | (with_reducible exact ex_refl _) | (with_reducible assumption) | (with_reducible refine ex_drewL ?_) | (with_reducible refine ex_appR ?_ _) | (with_reducible refine ex_wx ?_ _) | (with_reducible refine ex_drew ?_) | (with_reducible refine ex_alloc ?_ _)))) rfl rfl rfl (sld_one z (by (try show Ex _ _); repeat (first | (with_reducible exact ex_refl _) | (with_reducible assumption) | (with_reducible refine ex_drewL ?_) | (with_reducible refine ex_appR ?_ _) | (with_reducible refine ex_wx ?_ _) | (with_reducible refine ex_drew ?_) | (with_reducible refine ex_alloc ?_ _))) (by simp [go_sem])) (by simp only [List.length_singleton]; omega) (by simp [go_sem] <;> omega) (fun v1 w1 hown1 hbe => ?_); obtain ⟨X8, rfl⟩ := exOf (A := B) (by (try show Ex _ _); repeat (first | (with_reducible exact ex_refl _) | (with_reducible assumption) | (with_reducible refine ex_drewL ?_) | (with_reducible refine ex_appR ?_ _) | (with_reducible refine ex_wx ?_ _) | (with_reducible refine ex_drew ?_) | (with_reducible refine ex_alloc ?_ _))) hbe; rw [← HT.out] at hown1; replace hown1 := Lib.hid hown1))
          exact ⟨⟨k + 1, by omega, by go_num, hown1, (by (try show Ex _ _); repeat (first | (with_reducible exact ex_refl _) | (with_reducible assumption) | (with_reducible refine ex_drewL ?_) | (with_reducible refine ex_appR ?_ _) | (with_reducible refine ex_wx ?_ _) | (with_reducible refine ex_drew ?_) | (with_reducible refine ex_alloc ?_ _)))⟩, by simp [intOf]; omega⟩
        · obtain rfl : k = N := by omega
          have HO2 := HO.out
          rw [List.take_of_length_le (Nat.le_of_eq HN.out)] at HO2
          have hlm : (lv.map leafD).length = k := by rw [List.length_map, HN.out]
          obtain ⟨ia, ic, hiv, hi1, hi2, hi3, hi4⟩ := HO2.slg
          subst hiv
          have HI4 := Lib.hid hi4
          rw [hlm] at hi1 ⊢
          have HRt : Hid (∀ w', Ex (wx B X6) w' → Calls Tryd.prog 48 #[.slice ia k ic] w' (Post w' (.tuple #[.agg (rowB 32 (dF (rootD (lv.map leafD)))), I 0]))) := Lib.hid fun w' h => by
            have := Root_any (lv.map leafD) ia ic w' (by omega) (by omega) hi2 (HI4.out.ex h) (G.ex (ex_trans hwB.out (ex_trans ⟨X6, rfl⟩ h)))
            rwa [hlm] at this
          have HHi : Hid (∀ w', Ex B w' → Calls Tryd.prog 55 #[I j, I k, .agg (rowB 32 (dF old)), .agg (rowB 32 (dF (rootD (lv.map leafD)))), .slice a3 p9.length c3] w' (Post w' (.bool (decide (RootsD j k old p9 = some (old, rootD (lv.map leafD))))))) := Lib.hid fun w' h => by
            obtain ⟨Z, h2⟩ := HCm.out
            obtain ⟨_, _, hv, h3, h4, _, h5⟩ := h2.slg
            cases hv
            exact extends_any G j k old _ p9 a3 c3 w' (ex_trans hwB.out h) h3 h4 (h5.ex h)
          generalize decide (RootsD j k old p9 = some (old, rootD (lv.map leafD))) = zz at HHi HI6
          generalize rootD (lv.map leafD) = R at HRt HHi
          generalize lv.map leafD = ids at *
          clear hlt hk HO HO2 hi4 hlm
          go_wp2_with (go_at_call 48; (with_reducible refine (HRt.out _ (by (try show Ex _ _); repeat (first | (with_reducible exact ex_refl _) | (with_reducible assumption) | (with_reducible refine ex_drewL ?_) | (with_reducible refine ex_appR ?_ _) | (with_reducible refine ex_wx ?_ _) | (with_reducible refine ex_drew ?_) | (with_reducible refine ex_alloc ?_ _)))).mono ?_); rintro e w' ⟨rfl, X7, rfl⟩)
          refine wp_region_seq [(0, true), (1, true), (2, true), (3, true), (4, true), (6, true), (7, true), (8, true), (9, true), (10, true), (11, true), (12, true), (13, true), (14, true), (5, false), (15, false), (16, true), (17, true), (18, true)] (by kernel_rfl) (by kernel_rfl) (fun _ _ d _ _ h => by cases d <;> exact h) ?_
          simp only [List.map_cons, List.map_nil, nth]
          repeat (first | ((with_reducible refine wpSeq_look ?_); go_big_quiet_step (fail); (with_reducible refine wpQuiet_nil ?_)) | ((with_reducible refine wpSeq_effF ?_ ?_); (focus rfl); go_simp) | ((with_reducible refine wpSeq_eff ?_ ?_); (focus rfl); (try dsimp only); go_wp2_with (first | (go_at_call 41; (with_reducible refine (HI6.out _ (by (try show Ex _ _); repeat (first | (with_reducible exact ex_refl _) | (with_reducible assumption) | (with_reducible refine ex_drewL ?_) | (with_reducible refine ex_appR ?_ _) | (with_reducible refine ex_wx ?_ _) | (with_reducible refine ex_drew ?_) | (with_reducible refine ex_alloc ?_ _)))).mono ?_); rintro e w' ⟨rfl, X8, rfl⟩) | (go_at_call 55; (with_reducible refine (HHi.out _ (by (try show Ex _ _); repeat (first | (with_reducible exact ex_refl _) | (with_reducible assumption) | (with_reducible refine ex_drewL ?_) | (with_reducible refine ex_appR ?_ _) | (with_reducible refine ex_wx ?_ _) | (with_reducible refine ex_drew ?_) | (with_reducible refine ex_alloc ?_ _)))).mono ?_); rintro e w' ⟨rfl, X10, rfl⟩)); refine mixQ_mk (by (try show Ex _ _); repeat (first | (with_reducible exact ex_refl _) | (with_reducible assumption) | (with_reducible refine ex_drewL ?_) | (with_reducible refine ex_appR ?_ _) | (with_reducible refine ex_wx ?_ _) | (with_reducible refine ex_drew ?_) | (with_reducible refine ex_alloc ?_ _))) ?_))
          refine wpSeq_nil ?_
          go_wp2
          go_ret
          exact post_mk rfl (ex_trans hwB.out (by (try show Ex _ _); repeat (first | (with_reducible exact ex_refl _) | (with_reducible assumption) | (with_reducible refine ex_drewL ?_) | (with_reducible refine ex_appR ?_ _) | (with_reducible refine ex_wx ?_ _) | (with_reducible refine ex_drew ?_) | (with_reducible refine ex_alloc ?_ _))))
  | none =>
    cases r with
    | true =>
      have hR0 : Hid (old = R0) := Lib.hid (F2.out rfl rfl)
      obtain ⟨g, off, hla, hj1, hj2, hj3, HRo'⟩ := HRo.out rfl
      subst hla
      have hj0 : 0 ≤ j := by omega
      rw [← hR0.out] at HRo'
      have HRo2 := Lib.hid HRo'
      clear HRo HRo' hR0
      unfold maxLen at hl2
      have he := eqD old old
      rw [decide_eq_true rfl] at he
      go_wp2_with (first | (go_at_call 41; (with_reducible refine (HIn1.out _ (by (try show Ex _ _); repeat (first | (with_reducible exact ex_refl _) | (with_reducible assumption) | (with_reducible refine ex_drewL ?_) | (with_reducible refine ex_appR ?_ _) | (with_reducible refine ex_wx ?_ _) | (with_reducible refine ex_drew ?_) | (with_reducible refine ex_alloc ?_ _)))).mono ?_); rintro e w' ⟨rfl, X4, rfl⟩) | (go_at_call 39; (with_reducible refine (HI.out _ (by (try show Ex _ _); repeat (first | (with_reducible exact ex_refl _) | (with_reducible assumption) | (with_reducible refine ex_drewL ?_) | (with_reducible refine ex_appR ?_ _) | (with_reducible refine ex_wx ?_ _) | (with_reducible refine ex_drew ?_) | (with_reducible refine ex_alloc ?_ _)))).mono ?_); rintro e w' ⟨sa, sb, rfl, ⟨X5, rfl⟩, hcs⟩; (try simp only [wx_wx, wx_drew] at hcs); obtain ⟨s1, s2⟩ := hcs.one; replace hcs := Lib.hid hcs))
      refine wp_region_forkJ (B) (.look 0 (.look 1 (.look 2 (.look 3 (.look 4 (.look 5 (.fork 6 (.look 7 (.look 8 (.look 9 (.eff 10 (.eff 11 (.look 12 .done)))))) 10 (.eff 6 (.look 7 (.look 8 (.look 9 (.eff 11 (.look 12 .done))))))))))))) (by (try show Ex _ _); repeat (first | (with_reducible exact ex_refl _) | (with_reducible assumption) | (with_reducible refine ex_drewL ?_) | (with_reducible refine ex_appR ?_ _) | (with_reducible refine ex_wx ?_ _) | (with_reducible refine ex_drew ?_) | (with_reducible refine ex_alloc ?_ _))) (by kernel_rfl) (by kernel_rfl) (fun _ _ d _ _ h => by cases d <;> exact h) ?_
      simp only [Fj.ops, nth]
      repeat (first | ((with_reducible refine wpForkJ_look ?_); go_big_quiet_step (fail); (try (with_reducible refine wpQuiet_nil ?_))) | (with_reducible refine wpForkJ_eff ?_) | ((with_reducible refine effT_F ?_ ?_); (focus rfl); go_simp) | ((with_reducible refine effT_T ?_ ?_); (focus rfl); (try dsimp only); go_wp2_with ((go_at_call 42; (with_reducible refine (HRo2.out _ (by (try show Ex _ _); repeat (first | (with_reducible exact ex_refl _) | (with_reducible assumption) | (with_reducible refine ex_drewL ?_) | (with_reducible refine ex_appR ?_ _) | (with_reducible refine ex_wx ?_ _) | (with_reducible refine ex_drew ?_) | (with_reducible refine ex_alloc ?_ _)))).mono ?_); rintro e w' ⟨rfl, X5c, rfl⟩)); refine mixQ_mk (by (try show Ex _ _); repeat (first | (with_reducible exact ex_refl _) | (with_reducible assumption) | (with_reducible refine ex_drewL ?_) | (with_reducible refine ex_appR ?_ _) | (with_reducible refine ex_wx ?_ _) | (with_reducible refine ex_drew ?_) | (with_reducible refine ex_alloc ?_ _))) ?_))
      all_goals (try (first | (with_reducible refine wpForkJ_fork ?_ ?_) | (with_reducible refine wpForkJ_three ?_ ?_ ?_)))
      all_goals repeat (first | ((with_reducible refine wpForkJ_look ?_); go_big_quiet_step (fail); (try (with_reducible refine wpQuiet_nil ?_))) | (with_reducible refine wpForkJ_eff ?_) | ((with_reducible refine effT_F ?_ ?_); (focus rfl); go_simp) | ((with_reducible refine effT_T ?_ ?_); (focus rfl); (try dsimp only); go_wp2_with ((go_at_call 42; (with_reducible refine (HRo2.out _ (by (try show Ex _ _); repeat (first | (with_reducible exact ex_refl _) | (with_reducible assumption) | (with_reducible refine ex_drewL ?_) | (with_reducible refine ex_appR ?_ _) | (with_reducible refine ex_wx ?_ _) | (with_reducible refine ex_drew ?_) | (with_reducible refine ex_alloc ?_ _)))).mono ?_); rintro e w' ⟨rfl, X5c, rfl⟩)); refine mixQ_mk (by (try show Ex _ _); repeat (first | (with_reducible exact ex_refl _) | (with_reducible assumption) | (with_reducible refine ex_drewL ?_) | (with_reducible refine ex_appR ?_ _) | (with_reducible refine ex_wx ?_ _) | (with_reducible refine ex_drew ?_) | (with_reducible refine ex_alloc ?_ _))) ?_))
      all_goals (with_reducible refine wpForkJ_nil ?_)
      all_goals
        go_wp2
        go_loopw [11, 72] (fun v i W' => ∃ k : Nat, k ≤ N ∧ i = I k ∧ Hid (OwnD W' B.heap.size v ((lv.take k).map leafD)) ∧ Ex B W') (fun _ i _ => N - (intOf i).toNat)
        case atStart => exact ⟨0, by omega, rfl, Lib.hid (ownd_nil _ _), (by (try show Ex _ _); repeat (first | (with_reducible exact ex_refl _) | (with_reducible assumption) | (with_reducible refine ex_drewL ?_) | (with_reducible refine ex_appR ?_ _) | (with_reducible refine ex_wx ?_ _) | (with_reducible refine ex_drew ?_) | (with_reducible refine ex_alloc ?_ _)))⟩
        case round =>
          obtain ⟨k, hk, rfl, HO, ⟨X6, rfl⟩⟩ := hrel
          by_cases hlt : k < N
          · obtain ⟨g, off, hla, hg, hcell⟩ := HL.out.pos (by rw [HN.out]; omega)
            cases hla
            obtain ⟨b2, hb2⟩ : ∃ b2, lv[k]? = some b2 := ⟨_, List.getElem?_eq_getElem (by rw [HN.out]; omega)⟩
            obtain ⟨bv2, hc1, hb1⟩ := hcell k b2 hb2
            have HLf : Hid (∀ w', Ex B w' → Calls Tryd.prog 47 #[bv2] w' (Post w' (.agg (rowB 32 (dF (leafD b2)))))) := Lib.hid fun w' k => leafT_any (by have := hsh.out b2 (List.mem_of_getElem? hb2); omega) w' (hb1.ex k) (G.ex (ex_trans hwB.out k))
            have HT : Hid ((lv.take (k + 1)).map leafD = (lv.take k).map leafD ++ [leafD b2]) := Lib.hid (by
              obtain ⟨h1, h2⟩ := List.getElem?_eq_some_iff.1 hb2
              rw [List.take_succ_eq_append_getElem h1, List.map_append, h2]; rfl)
            have hlk : ((lv.take k).map leafD).length ≤ 16 := by rw [List.length_map, List.length_take]; omega
            obtain ⟨va, vc, rfl, _⟩ := hb1.out
            generalize leafD b2 = z at HLf HT
            clear hcell hb1 hb2
            go_wp2_with (first | (go_at_call 47; (with_reducible refine (HLf.out _ (by (try show Ex _ _); repeat (first | (with_reducible exact ex_refl _) | (with_reducible assumption) | (with_reducible refine ex_drewL ?_) | (with_reducible refine ex_appR ?_ _) | (with_reducible refine ex_wx ?_ _) | (with_reducible refine ex_drew ?_) | (with_reducible refine ex_alloc ?_ _)))).mono ?_); rintro e w' ⟨rfl, X7, rfl⟩) | (at_builtin; refine wpAppD (r := [z]) _ _ rfl rfl (HO.out.ex (by (try show Ex _ _); repeat (first | (with_reducible exact ex_refl _) | (with_reducible assumption) | (with_reducible refine ex_drewL ?_) | (with_reducible refine ex_appR ?_ _) | (with_reducible refine ex_wx ?_ _) | (with_reducible refine ex_drew ?_) | (with_reducible refine ex_alloc ?_ _)))) rfl rfl rfl (sld_one z (by (try show Ex _ _); repeat (first | (with_reducible exact ex_refl _) | (with_reducible assumption) | (with_reducible refine ex_drewL ?_) | (with_reducible refine ex_appR ?_ _) | (with_reducible refine ex_wx ?_ _) | (with_reducible refine ex_drew ?_) | (with_reducible refine ex_alloc ?_ _))) (by simp [go_sem])) (by simp only [List.length_singleton]; omega) (by simp [go_sem] <;> omega) (fun v1 w1 hown1 hbe => ?_); obtain ⟨X8, rfl⟩ := exOf (A := B) (by (try show Ex _ _); repeat (first | (with_reducible exact ex_refl _) | (with_reducible assumption) | (with_reducible refine ex_drewL ?_) | (with_reducible refine ex_appR ?_ _) | (with_reducible refine ex_wx ?_ _) | (with_reducible refine ex_drew ?_) | (with_reducible refine ex_alloc ?_ _))) hbe; rw [← HT.out] at hown1; replace hown1 := Lib.hid hown1))
            exact ⟨⟨k + 1, by omega, by go_num, hown1, (by (try show Ex _ _); repeat (first | (with_reducible exact ex_refl _) | (with_reducible assumption) | (with_reducible refine ex_drewL ?_) | (with_reducible refine ex_appR ?_ _) | (with_reducible refine ex_wx ?_ _) | (with_reducible refine ex_drew ?_) | (with_reducible refine ex_alloc ?_ _)))⟩, by simp [intOf]; omega⟩
          · obtain rfl : k = N := by omega
            have HO2 := HO.out
            rw [List.take_of_length_le (Nat.le_of_eq HN.out)] at HO2
            have hlm : (lv.map leafD).length = k := by rw [List.length_map, HN.out]
            obtain ⟨ia, ic, hiv, hi1, hi2, hi3, hi4⟩ := HO2.slg
            subst hiv
            have HI4 := Lib.hid hi4
            rw [hlm] at hi1 ⊢
            have HRt : Hid (∀ w', Ex (wx B X6) w' → Calls Tryd.prog 48 #[.slice ia k ic] w' (Post w' (.tuple #[.agg (rowB 32 (dF (rootD (lv.map leafD)))), I 0]))) := Lib.hid fun w' h => by
              have := Root_any (lv.map leafD) ia ic w' (by omega) (by omega) hi2 (HI4.out.ex h) (G.ex (ex_trans hwB.out (ex_trans ⟨X6, rfl⟩ h)))
              rwa [hlm] at this
            have HHi : Hid (∀ w', Ex B w' → Calls Tryd.prog 55 #[I j, I k, .agg (rowB 32 (dF old)), .agg (rowB 32 (dF (rootD (lv.map leafD)))), .slice a3 p9.length c3] w' (Post w' (.bool (decide (RootsD j k old p9 = some (old, rootD (lv.map leafD))))))) := Lib.hid fun w' h => by
              obtain ⟨Z, h2⟩ := HCm.out
              obtain ⟨_, _, hv, h3, h4, _, h5⟩ := h2.slg
              cases hv
              exact extends_any G j k old _ p9 a3 c3 w' (ex_trans hwB.out h) h3 h4 (h5.ex h)
            generalize decide (RootsD j k old p9 = some (old, rootD (lv.map leafD))) = zz at HHi HI6
            generalize rootD (lv.map leafD) = R at HRt HHi
            generalize lv.map leafD = ids at *
            clear hlt hk HO HO2 hi4 hlm
            go_wp2_with (go_at_call 48; (with_reducible refine (HRt.out _ (by (try show Ex _ _); repeat (first | (with_reducible exact ex_refl _) | (with_reducible assumption) | (with_reducible refine ex_drewL ?_) | (with_reducible refine ex_appR ?_ _) | (with_reducible refine ex_wx ?_ _) | (with_reducible refine ex_drew ?_) | (with_reducible refine ex_alloc ?_ _)))).mono ?_); rintro e w' ⟨rfl, X7, rfl⟩)
            refine wp_region_seq [(0, true), (1, true), (2, true), (3, true), (4, true), (6, true), (7, true), (8, true), (9, true), (10, true), (11, true), (12, true), (13, true), (14, true), (5, false), (15, false), (16, true), (17, true), (18, true)] (by kernel_rfl) (by kernel_rfl) (fun _ _ d _ _ h => by cases d <;> exact h) ?_
            simp only [List.map_cons, List.map_nil, nth]
            repeat (first | ((with_reducible refine wpSeq_look ?_); go_big_quiet_step (fail); (with_reducible refine wpQuiet_nil ?_)) | ((with_reducible refine wpSeq_effF ?_ ?_); (focus rfl); go_simp) | ((with_reducible refine wpSeq_eff ?_ ?_); (focus rfl); (try dsimp only); go_wp2_with (first | (go_at_call 41; (with_reducible refine (HI6.out _ (by (try show Ex _ _); repeat (first | (with_reducible exact ex_refl _) | (with_reducible assumption) | (with_reducible refine ex_drewL ?_) | (with_reducible refine ex_appR ?_ _) | (with_reducible refine ex_wx ?_ _) | (with_reducible refine ex_drew ?_) | (with_reducible refine ex_alloc ?_ _)))).mono ?_); rintro e w' ⟨rfl, X8, rfl⟩) | (go_at_call 55; (with_reducible refine (HHi.out _ (by (try show Ex _ _); repeat (first | (with_reducible exact ex_refl _) | (with_reducible assumption) | (with_reducible refine ex_drewL ?_) | (with_reducible refine ex_appR ?_ _) | (with_reducible refine ex_wx ?_ _) | (with_reducible refine ex_drew ?_) | (with_reducible refine ex_alloc ?_ _)))).mono ?_); rintro e w' ⟨rfl, X10, rfl⟩)); refine mixQ_mk (by (try show Ex _ _); repeat (first | (with_reducible exact ex_refl _) | (with_reducible assumption) | (with_reducible refine ex_drewL ?_) | (with_reducible refine ex_appR ?_ _) | (with_reducible refine ex_wx ?_ _) | (with_reducible refine ex_drew ?_) | (with_reducible refine ex_alloc ?_ _))) ?_))
            refine wpSeq_nil ?_
            go_wp2
            go_ret
            exact post_mk rfl (ex_trans hwB.out (by (try show Ex _ _); repeat (first | (with_reducible exact ex_refl _) | (with_reducible assumption) | (with_reducible refine ex_drewL ?_) | (with_reducible refine ex_appR ?_ _) | (with_reducible refine ex_wx ?_ _) | (with_reducible refine ex_drew ?_) | (with_reducible refine ex_alloc ?_ _))))
    | false =>
      go_wp2_with (first | (go_at_call 41; (with_reducible refine (HIn1.out _ (by (try show Ex _ _); repeat (first | (with_reducible exact ex_refl _) | (with_reducible assumption) | (with_reducible refine ex_drewL ?_) | (with_reducible refine ex_appR ?_ _) | (with_reducible refine ex_wx ?_ _) | (with_reducible refine ex_drew ?_) | (with_reducible refine ex_alloc ?_ _)))).mono ?_); rintro e w' ⟨rfl, X4, rfl⟩) | (go_at_call 39; (with_reducible refine (HI.out _ (by (try show Ex _ _); repeat (first | (with_reducible exact ex_refl _) | (with_reducible assumption) | (with_reducible refine ex_drewL ?_) | (with_reducible refine ex_appR ?_ _) | (with_reducible refine ex_wx ?_ _) | (with_reducible refine ex_drew ?_) | (with_reducible refine ex_alloc ?_ _)))).mono ?_); rintro e w' ⟨sa, sb, rfl, ⟨X5, rfl⟩, hcs⟩; (try simp only [wx_wx, wx_drew] at hcs); obtain ⟨s1, s2⟩ := hcs.one; replace hcs := Lib.hid hcs))
      go_loopw [11, 72] (fun v i W' => ∃ k : Nat, k ≤ N ∧ i = I k ∧ Hid (OwnD W' B.heap.size v ((lv.take k).map leafD)) ∧ Ex B W') (fun _ i _ => N - (intOf i).toNat)
      case atStart => exact ⟨0, by omega, rfl, Lib.hid (ownd_nil _ _), (by (try show Ex _ _); repeat (first | (with_reducible exact ex_refl _) | (with_reducible assumption) | (with_reducible refine ex_drewL ?_) | (with_reducible refine ex_appR ?_ _) | (with_reducible refine ex_wx ?_ _) | (with_reducible refine ex_drew ?_) | (with_reducible refine ex_alloc ?_ _)))⟩
      case round =>
        obtain ⟨k, hk, rfl, HO, ⟨X6, rfl⟩⟩ := hrel
        by_cases hlt : k < N
        · obtain ⟨g, off, hla, hg, hcell⟩ := HL.out.pos (by rw [HN.out]; omega)
          cases hla
          obtain ⟨b2, hb2⟩ : ∃ b2, lv[k]? = some b2 := ⟨_, List.getElem?_eq_getElem (by rw [HN.out]; omega)⟩
          obtain ⟨bv2, hc1, hb1⟩ := hcell k b2 hb2
          have HLf : Hid (∀ w', Ex B w' → Calls Tryd.prog 47 #[bv2] w' (Post w' (.agg (rowB 32 (dF (leafD b2)))))) := Lib.hid fun w' k => leafT_any (by have := hsh.out b2 (List.mem_of_getElem? hb2); omega) w' (hb1.ex k) (G.ex (ex_trans hwB.out k))
          have HT : Hid ((lv.take (k + 1)).map leafD = (lv.take k).map leafD ++ [leafD b2]) := Lib.hid (by
            obtain ⟨h1, h2⟩ := List.getElem?_eq_some_iff.1 hb2
            rw [List.take_succ_eq_append_getElem h1, List.map_append, h2]; rfl)
          have hlk : ((lv.take k).map leafD).length ≤ 16 := by rw [List.length_map, List.length_take]; omega
          obtain ⟨va, vc, rfl, _⟩ := hb1.out
          generalize leafD b2 = z at HLf HT
          clear hcell hb1 hb2
          go_wp2_with (first | (go_at_call 47; (with_reducible refine (HLf.out _ (by (try show Ex _ _); repeat (first | (with_reducible exact ex_refl _) | (with_reducible assumption) | (with_reducible refine ex_drewL ?_) | (with_reducible refine ex_appR ?_ _) | (with_reducible refine ex_wx ?_ _) | (with_reducible refine ex_drew ?_) | (with_reducible refine ex_alloc ?_ _)))).mono ?_); rintro e w' ⟨rfl, X7, rfl⟩) | (at_builtin; refine wpAppD (r := [z]) _ _ rfl rfl (HO.out.ex (by (try show Ex _ _); repeat (first | (with_reducible exact ex_refl _) | (with_reducible assumption) | (with_reducible refine ex_drewL ?_) | (with_reducible refine ex_appR ?_ _) | (with_reducible refine ex_wx ?_ _) | (with_reducible refine ex_drew ?_) | (with_reducible refine ex_alloc ?_ _)))) rfl rfl rfl (sld_one z (by (try show Ex _ _); repeat (first | (with_reducible exact ex_refl _) | (with_reducible assumption) | (with_reducible refine ex_drewL ?_) | (with_reducible refine ex_appR ?_ _) | (with_reducible refine ex_wx ?_ _) | (with_reducible refine ex_drew ?_) | (with_reducible refine ex_alloc ?_ _))) (by simp [go_sem])) (by simp only [List.length_singleton]; omega) (by simp [go_sem] <;> omega) (fun v1 w1 hown1 hbe => ?_); obtain ⟨X8, rfl⟩ := exOf (A := B) (by (try show Ex _ _); repeat (first | (with_reducible exact ex_refl _) | (with_reducible assumption) | (with_reducible refine ex_drewL ?_) | (with_reducible refine ex_appR ?_ _) | (with_reducible refine ex_wx ?_ _) | (with_reducible refine ex_drew ?_) | (with_reducible refine ex_alloc ?_ _))) hbe; rw [← HT.out] at hown1; replace hown1 := Lib.hid hown1))
          exact ⟨⟨k + 1, by omega, by go_num, hown1, (by (try show Ex _ _); repeat (first | (with_reducible exact ex_refl _) | (with_reducible assumption) | (with_reducible refine ex_drewL ?_) | (with_reducible refine ex_appR ?_ _) | (with_reducible refine ex_wx ?_ _) | (with_reducible refine ex_drew ?_) | (with_reducible refine ex_alloc ?_ _)))⟩, by simp [intOf]; omega⟩
        · obtain rfl : k = N := by omega
          have HO2 := HO.out
          rw [List.take_of_length_le (Nat.le_of_eq HN.out)] at HO2
          have hlm : (lv.map leafD).length = k := by rw [List.length_map, HN.out]
          obtain ⟨ia, ic, hiv, hi1, hi2, hi3, hi4⟩ := HO2.slg
          subst hiv
          have HI4 := Lib.hid hi4
          rw [hlm] at hi1 ⊢
          have HRt : Hid (∀ w', Ex (wx B X6) w' → Calls Tryd.prog 48 #[.slice ia k ic] w' (Post w' (.tuple #[.agg (rowB 32 (dF (rootD (lv.map leafD)))), I 0]))) := Lib.hid fun w' h => by
            have := Root_any (lv.map leafD) ia ic w' (by omega) (by omega) hi2 (HI4.out.ex h) (G.ex (ex_trans hwB.out (ex_trans ⟨X6, rfl⟩ h)))
            rwa [hlm] at this
          have HHi : Hid (∀ w', Ex B w' → Calls Tryd.prog 55 #[I j, I k, .agg (rowB 32 (dF old)), .agg (rowB 32 (dF (rootD (lv.map leafD)))), .slice a3 p9.length c3] w' (Post w' (.bool (decide (RootsD j k old p9 = some (old, rootD (lv.map leafD))))))) := Lib.hid fun w' h => by
            obtain ⟨Z, h2⟩ := HCm.out
            obtain ⟨_, _, hv, h3, h4, _, h5⟩ := h2.slg
            cases hv
            exact extends_any G j k old _ p9 a3 c3 w' (ex_trans hwB.out h) h3 h4 (h5.ex h)
          generalize decide (RootsD j k old p9 = some (old, rootD (lv.map leafD))) = zz at HHi HI6
          generalize rootD (lv.map leafD) = R at HRt HHi
          generalize lv.map leafD = ids at *
          clear hlt hk HO HO2 hi4 hlm
          go_wp2_with (go_at_call 48; (with_reducible refine (HRt.out _ (by (try show Ex _ _); repeat (first | (with_reducible exact ex_refl _) | (with_reducible assumption) | (with_reducible refine ex_drewL ?_) | (with_reducible refine ex_appR ?_ _) | (with_reducible refine ex_wx ?_ _) | (with_reducible refine ex_drew ?_) | (with_reducible refine ex_alloc ?_ _)))).mono ?_); rintro e w' ⟨rfl, X7, rfl⟩)
          refine wp_region_seq [(0, true), (1, true), (2, true), (3, true), (4, true), (6, true), (7, true), (8, true), (9, true), (10, true), (11, true), (12, true), (13, true), (14, true), (5, false), (15, false), (16, true), (17, true), (18, true)] (by kernel_rfl) (by kernel_rfl) (fun _ _ d _ _ h => by cases d <;> exact h) ?_
          simp only [List.map_cons, List.map_nil, nth]
          repeat (first | ((with_reducible refine wpSeq_look ?_); go_big_quiet_step (fail); (with_reducible refine wpQuiet_nil ?_)) | ((with_reducible refine wpSeq_effF ?_ ?_); (focus rfl); go_simp) | ((with_reducible refine wpSeq_eff ?_ ?_); (focus rfl); (try dsimp only); go_wp2_with (first | (go_at_call 41; (with_reducible refine (HI6.out _ (by (try show Ex _ _); repeat (first | (with_reducible exact ex_refl _) | (with_reducible assumption) | (with_reducible refine ex_drewL ?_) | (with_reducible refine ex_appR ?_ _) | (with_reducible refine ex_wx ?_ _) | (with_reducible refine ex_drew ?_) | (with_reducible refine ex_alloc ?_ _)))).mono ?_); rintro e w' ⟨rfl, X8, rfl⟩) | (go_at_call 55; (with_reducible refine (HHi.out _ (by (try show Ex _ _); repeat (first | (with_reducible exact ex_refl _) | (with_reducible assumption) | (with_reducible refine ex_drewL ?_) | (with_reducible refine ex_appR ?_ _) | (with_reducible refine ex_wx ?_ _) | (with_reducible refine ex_drew ?_) | (with_reducible refine ex_alloc ?_ _)))).mono ?_); rintro e w' ⟨rfl, X10, rfl⟩)); refine mixQ_mk (by (try show Ex _ _); repeat (first | (with_reducible exact ex_refl _) | (with_reducible assumption) | (with_reducible refine ex_drewL ?_) | (with_reducible refine ex_appR ?_ _) | (with_reducible refine ex_wx ?_ _) | (with_reducible refine ex_drew ?_) | (with_reducible refine ex_alloc ?_ _))) ?_))
          refine wpSeq_nil ?_
          go_wp2
          go_ret
          exact post_mk rfl (ex_trans hwB.out (by (try show Ex _ _); repeat (first | (with_reducible exact ex_refl _) | (with_reducible assumption) | (with_reducible refine ex_drewL ?_) | (with_reducible refine ex_appR ?_ _) | (with_reducible refine ex_wx ?_ _) | (with_reducible refine ex_drew ?_) | (with_reducible refine ex_alloc ?_ _))))
end Go.Proofs.YtcdocklbpfdmeaaDoor
