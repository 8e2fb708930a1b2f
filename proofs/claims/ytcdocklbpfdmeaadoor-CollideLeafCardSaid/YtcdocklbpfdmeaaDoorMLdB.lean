import Derived.Test.YtcdocklbpfdmeaaDoorMLdA
import Derived.Test.YtcdocklbpfdmeaaDoorMForkJ

/- CollideLeaf: the law. -/
set_option linter.unusedSimpArgs false
set_option linter.unusedVariables false
set_option linter.unnecessarySimpa false
set_option maxRecDepth 20000
namespace Go.Proofs.YtcdocklbpfdmeaaDoor
open Go.RowKit
theorem info_listF : (Tryd.prog.info? 63).map (·.size) = some 2 := by kernel_rfl
@[go_sem] theorem load_listF (b o : Nat) (w : World) : loadRun Tryd.prog 63 (.pointer (some ⟨b, o, none⟩)) w = match cellsN w b o 2 with | some cs => .ok (.value (.agg cs)) w | none => loadRaw Tryd.prog 63 (.pointer (some ⟨b, o, none⟩)) w := loadRun_row Tryd.underlying63 rfl info_listF b o w
@[go_sem] theorem store_listF (b o : Nat) (vs : Array Value) (w : World) : storeRun Tryd.prog 63 (.pointer (some ⟨b, o, none⟩)) (.agg vs) w = if (vs.size == 2 && (cellsN w b o 2).isSome && !frozenN w b o 2 && oneCells vs) = true then .ok .skip (w.setCells b o vs.toList) else storeRaw Tryd.prog 63 (.pointer (some ⟨b, o, none⟩)) (.agg vs) w := storeRun_row info_listF b o vs w
set_option maxHeartbeats 2000000 in
theorem cleaf_any (W : Int) (l : List (List UInt8)) (a : Option Addr) (c : Nat) (j : Int) {bv : Value} {b : List UInt8} (pa : Option Addr) (path : List Dg) (pc : Nat) (w : World) (G : Glob w) (hc : l.length ≤ c) (hcm : c ≤ maxLen) (hs : SlLs w a l) (hb1 : SlT w bv b) (hpc : path.length ≤ pc) (hpm : pc ≤ maxLen) (hpn : pa = none → pc = 0) (hpath : SlD w pa path) :
    Calls Tryd.prog 8 #[.agg #[I W, .slice a l.length c], .agg #[I j, bv, .slice pa path.length pc]] w (Post w (.bool true)) := by
  have HWk := Lib.hid fun w' (k : Ex w w') => wakesC_any w' (G.ex k)
  have HLv := Lib.hid fun w' (k : Ex w w') => leaves_any W l a c w' hc hcm (hs.ex k)
  have hsh := Lib.hid (lvL_short l)
  have hll := lvL_len l
  have HC := Lib.hid fun w' (k : Ex w w') => claim_any j path pa pc w' (hb1.ex k) hpc hpm hpn (hpath.ex k)
  unfold PostCm at HC
  have hb9 : (b.take 90).length ≤ 90 := by rw [List.length_take]; omega
  have hbo : bv.oneCell' = true := by obtain ⟨_, _, rfl, _⟩ := hb1.out; rfl
  generalize b.take 90 = b9 at HC hb9
  generalize path.take 12 = p9 at HC
  generalize path.length = pn at *
  generalize lvL l = lv at HLv hsh hll
  generalize l.length = n at *
  unfold maxLen at hcm hpm
  clear hb1 hpath hs
  go_enter Tryd.func8, Tryd.ntmps8
  go_wp2_with (first | (go_at_call 11; (with_reducible refine (HWk.out _ (by (try show Ex _ _); repeat (first | (with_reducible exact ex_refl _) | (with_reducible assumption) | (with_reducible refine ex_drewL ?_) | (with_reducible refine ex_appR ?_ _) | (with_reducible refine ex_wx ?_ _) | (with_reducible refine ex_drew ?_) | (with_reducible refine ex_alloc ?_ _)))).mono ?_); rintro e w2 ⟨rfl, X, rfl⟩) | (go_at_call 28; (with_reducible refine (HLv.out _ (by (try show Ex _ _); repeat (first | (with_reducible exact ex_refl _) | (with_reducible assumption) | (with_reducible refine ex_drewL ?_) | (with_reducible refine ex_appR ?_ _) | (with_reducible refine ex_wx ?_ _) | (with_reducible refine ex_drew ?_) | (with_reducible refine ex_alloc ?_ _)))).mono ?_); rintro e B ⟨ov, rfl, hO, X2, rfl⟩; (try simp only [wx_wx, wx_drew] at hO); obtain ⟨la, lc, rfl, hl1, hl2, hl3, _⟩ := hO.sl; replace hO := Lib.hid hO) | (go_at_call 29; (with_reducible refine (HC.out _ (by (try show Ex _ _); repeat (first | (with_reducible exact ex_refl _) | (with_reducible assumption) | (with_reducible refine ex_drewL ?_) | (with_reducible refine ex_appR ?_ _) | (with_reducible refine ex_wx ?_ _) | (with_reducible refine ex_drew ?_) | (with_reducible refine ex_alloc ?_ _)))).mono ?_); rintro e w' ⟨v1, v2, rfl, h1, h2, X3, rfl⟩; (try simp only [wx_wx, wx_drew] at h1 h2); obtain ⟨a1, c1, rfl, _⟩ := h1.slt.out; obtain ⟨a3, c3, rfl, _⟩ := h2.slg; replace h2 := Lib.hid (show ∃ Z, OwnD _ Z _ _ from ⟨_, h2⟩); replace h1 := Lib.hid h1))
  obtain ⟨A1, hA1⟩ : ∃ A1, (w.alloc (.cells #[I W, .slice a n c] 63)).alloc (.cells #[I j, .slice a1 b9.length c1, .slice a3 p9.length c3] 67) = A1 := ⟨_, rfl⟩
  obtain ⟨B, hB⟩ : ∃ B, wx A1 ((X.app X2).app X3) = B := ⟨_, rfl⟩
  have hAB : Ex A1 B := ⟨_, hB.symm⟩
  have hwA : Ex w A1 := by rw [← hA1]; exact (by (try show Ex _ _); repeat (first | (with_reducible exact ex_refl _) | (with_reducible assumption) | (with_reducible refine ex_drewL ?_) | (with_reducible refine ex_appR ?_ _) | (with_reducible refine ex_wx ?_ _) | (with_reducible refine ex_drew ?_) | (with_reducible refine ex_alloc ?_ _)))
  have hwB : Hid (Ex w B) := Lib.hid (ex_trans hwA hAB)
  have HL : Hid (SlLs B la lv) := Lib.hid (by
    have h := hO.out.kt (w' := B) (by rw [← hB, ← hA1]; exact (by repeat (first | (with_reducible exact Kt.refl _) | (with_reducible refine Kt.ofSt ?_; ((repeat (first | (with_reducible exact St.refl _) | (with_reducible refine St.wx ?_ _) | (with_reducible refine St.alloc ?_ _) | (with_reducible refine St.turn ?_ (by decide)))); done)) | (with_reducible refine Kt.allocR ?_ _) | (with_reducible refine Kt.appR ?_ _) | (with_reducible refine Kt.wxR ?_ _))))
    obtain ⟨_, _, hv, _, _, _, h⟩ := h.sl
    cases hv
    exact h)
  have HCm : Hid (OwnU B (.slice a1 b9.length c1) b9 ∧ ∃ Z, OwnD B Z (.slice a3 p9.length c3) p9) := Lib.hid ⟨h1.out.kt (by rw [← hB, ← hA1]; exact (by repeat (first | (with_reducible exact Kt.refl _) | (with_reducible refine Kt.ofSt ?_; ((repeat (first | (with_reducible exact St.refl _) | (with_reducible refine St.wx ?_ _) | (with_reducible refine St.alloc ?_ _) | (with_reducible refine St.turn ?_ (by decide)))); done)) | (with_reducible refine Kt.allocR ?_ _) | (with_reducible refine Kt.appR ?_ _) | (with_reducible refine Kt.wxR ?_ _)))), h2.out.elim fun Z h => ⟨Z, h.kt (by rw [← hB, ← hA1]; exact (by repeat (first | (with_reducible exact Kt.refl _) | (with_reducible refine Kt.ofSt ?_; ((repeat (first | (with_reducible exact St.refl _) | (with_reducible refine St.wx ?_ _) | (with_reducible refine St.alloc ?_ _) | (with_reducible refine St.turn ?_ (by decide)))); done)) | (with_reducible refine Kt.allocR ?_ _) | (with_reducible refine Kt.appR ?_ _) | (with_reducible refine Kt.wxR ?_ _))))⟩⟩
  have hb2 : A1.heap[w.heap.size]? = some (.cells #[I W, .slice a n c] 63 (0, 0)) := by
    rw [← hA1]; exact ex_block (ex_alloc (ex_refl _) _) (heap_alloc_new w _)
  have hb3 : A1.heap[w.heap.size + 1]? = some (.cells #[I j, .slice a1 b9.length c1, .slice a3 p9.length c3] 67 (0, 0)) := by
    rw [← hA1, ← World.size_alloc w (.cells #[I W, .slice a n c] 63)]; exact heap_alloc_new _ _
  replace hb2 := ex_block hAB hb2
  replace hb3 := ex_block hAB hb3
  rw [hA1, hB]
  clear hA1 hB hwA hAB hO h1 h2 HWk HLv HC
  obtain ⟨p, hp⟩ : ∃ p, w.heap.size = p := ⟨_, rfl⟩
  obtain ⟨q, hq⟩ : ∃ q, w.heap.size + 1 = q := ⟨_, rfl⟩
  rw [hq] at hb3 ⊢
  rw [hp] at hb2 ⊢
  clear hp hq
  have p2 := (block_cellsF (n := 2) hb2 rfl).1
  have p20 := (block_cellF (o := 0) (v := I W) hb2 rfl).1
  have q3 := (block_cellsF (n := 3) hb3 rfl).1
  have q30 := (block_cellF (o := 0) (v := I j) hb3 rfl).1
  have q31 := (block_cellF (o := 1) (v := .slice a1 b9.length c1) hb3 rfl).1
  have q32 := (block_cellF (o := 2) (v := .slice a3 p9.length c3) hb3 rfl).1
  have zp := cell_lt p20
  have zq := cell_lt q30
  clear hb2 hb3
  have HIn : Hid (∀ (V : Int) w', Ex B w' → Calls Tryd.prog 33 #[I V, .slice la lv.length lc, .agg #[I j, .slice a1 b9.length c1, .slice a3 p9.length c3]] w' (Post w' (.bool (inclC V lv j b9 p9).1))) := Lib.hid fun V w' k => by
    obtain ⟨h1, Z, h2⟩ := HCm.out
    obtain ⟨_, _, hv, h3, h4, _, h5⟩ := h2.slg
    cases hv
    exact includes_bc V _ _ _ ⟨_, _, _, rfl, rfl, rfl⟩ fun w2 k2 => included_any G V hb9 lv la lc j p9 a3 c3 w2 hl1 hl2 (fun _ => ⟨HL.out.ex (ex_trans k k2), hsh.out⟩) rfl (fun _ => h1.slt.ex (ex_trans k k2)) h3 h4 (h5.ex (ex_trans k k2)) (ex_trans hwB.out (ex_trans k k2))
  have HI : Hid (∀ w', Ex B w' → Calls Tryd.prog 31 #[I W, .slice la lv.length lc, .agg #[I j, .slice a1 b9.length c1, .slice a3 p9.length c3]] w' (PostClT w' (inclT W lv j b9 p9))) := Lib.hid fun w' k => by
    obtain ⟨h1, Z, h2⟩ := HCm.out
    obtain ⟨_, _, hv, h3, h4, _, h5⟩ := h2.slg
    cases hv
    exact include_any G W hb9 lv la lc j p9 a3 c3 w' hl1 hl2 (fun _ => ⟨HL.out.ex k, hsh.out⟩) rfl (fun _ => h1.slt.ex k) h3 h4 (h5.ex k) (ex_trans hwB.out k)
  have F1 := Lib.hid fun x => inclT_is (W := W) (l := lv) (i := j) (b := b9) (path := p9) (x := x) hsh.out hb9
  have F2 := Lib.hid (incl_so (W := W) (l := lv) (i := j) (b := b9) (path := p9))
  have HIn1 := Lib.hid fun w' => HIn.out W w'
  generalize inclC W lv j b9 p9 = r at HIn1 F1 F2
  obtain ⟨r, rc⟩ := r
  simp only at HIn1 F1 F2
  generalize inclT W lv j b9 p9 = o at HI F1 F2
  obtain ⟨N, hN⟩ : ∃ N, lv.length = N := ⟨_, rfl⟩
  have HN : Hid (lv.length = N) := Lib.hid hN
  rw [hN] at hll hl1 HIn HIn1 HI F2 ⊢
  clear hN
  have HI6 : Hid (∀ w', Ex B w' → Calls Tryd.prog 33 #[I 256, .slice la N lc, .agg #[I j, .slice a1 b9.length c1, .slice a3 p9.length c3]] w' (Post w' (.bool (decide (ClimbD N j (leafD b9) p9 = some (rootD (lv.map leafD))))))) := Lib.hid fun w' h => by
    have := HIn.out 256 w' h
    rwa [incl_hist (by have := HN.out; omega), HN.out] at this
  cases o with
  | some x =>
    obtain ⟨hr, hx1, hx2, hx3⟩ := F1.out x rfl
    subst hr
    have HIs : Hid (∀ w' sa sb, Ex B w' → ClS w' sa sb (some x) → Calls Tryd.prog 16 #[I W, .agg #[sa, sb]] w' (Post w' (.bool true))) := Lib.hid fun w' sa sb k h => by
      have := wis_any G W (ex_trans hwB.out k) h.1.slt h.2.slt (by omega) (by omega)
      rwa [hx1] at this
    have HIs2 := Lib.hid fun w' => HIn1.out w'
    go_wp2_with (first | (go_at_call 33; (with_reducible refine (HIn1.out _ (by (try show Ex _ _); repeat (first | (with_reducible exact ex_refl _) | (with_reducible assumption) | (with_reducible refine ex_drewL ?_) | (with_reducible refine ex_appR ?_ _) | (with_reducible refine ex_wx ?_ _) | (with_reducible refine ex_drew ?_) | (with_reducible refine ex_alloc ?_ _)))).mono ?_); rintro e w' ⟨rfl, X4, rfl⟩) | (go_at_call 31; (with_reducible refine (HI.out _ (by (try show Ex _ _); repeat (first | (with_reducible exact ex_refl _) | (with_reducible assumption) | (with_reducible refine ex_drewL ?_) | (with_reducible refine ex_appR ?_ _) | (with_reducible refine ex_wx ?_ _) | (with_reducible refine ex_drew ?_) | (with_reducible refine ex_alloc ?_ _)))).mono ?_); rintro e w' ⟨sa, sb, rfl, ⟨X5, rfl⟩, hcs⟩; (try simp only [wx_wx, wx_drew] at hcs); obtain ⟨s1, s2⟩ := hcs.one; replace hcs := Lib.hid hcs) | (go_at_call 16; (with_reducible refine (HIs.out _ _ _ (by (try show Ex _ _); repeat (first | (with_reducible exact ex_refl _) | (with_reducible assumption) | (with_reducible refine ex_drewL ?_) | (with_reducible refine ex_appR ?_ _) | (with_reducible refine ex_wx ?_ _) | (with_reducible refine ex_drew ?_) | (with_reducible refine ex_alloc ?_ _))) (hcs.out.ex (by (try show Ex _ _); repeat (first | (with_reducible exact ex_refl _) | (with_reducible assumption) | (with_reducible refine ex_drewL ?_) | (with_reducible refine ex_appR ?_ _) | (with_reducible refine ex_wx ?_ _) | (with_reducible refine ex_drew ?_) | (with_reducible refine ex_alloc ?_ _))))).mono ?_); rintro e w' ⟨rfl, X5b, rfl⟩))
    refine wp_region_seq [(0, true), (1, true), (2, true), (3, true), (4, true), (5, true), (6, true), (7, true), (8, true), (9, true), (10, true), (11, true), (12, true), (13, false), (14, true), (15, true)] (by kernel_rfl) (by kernel_rfl) (fun _ _ d _ _ h => by cases d <;> exact h) ?_
    simp only [List.map_cons, List.map_nil, nth]
    repeat (first | ((with_reducible refine wpSeq_look ?_); go_big_quiet_step (fail); (with_reducible refine wpQuiet_nil ?_)) | ((with_reducible refine wpSeq_effF ?_ ?_); (focus rfl); go_simp) | ((with_reducible refine wpSeq_eff ?_ ?_); (focus rfl); (try dsimp only); go_wp2_with (fail); refine mixQ_mk (by (try show Ex _ _); repeat (first | (with_reducible exact ex_refl _) | (with_reducible assumption) | (with_reducible refine ex_drewL ?_) | (with_reducible refine ex_appR ?_ _) | (with_reducible refine ex_wx ?_ _) | (with_reducible refine ex_drew ?_) | (with_reducible refine ex_alloc ?_ _))) ?_))
    refine wpSeq_nil ?_
    go_wp2
    go_loopw [9, 64] (fun v i W' => ∃ k : Nat, k ≤ N ∧ i = I k ∧ Hid (OwnD W' B.heap.size v ((lv.take k).map leafD)) ∧ Ex B W') (fun _ i _ => N - (intOf i).toNat)
    case atStart => exact ⟨0, by omega, rfl, Lib.hid (ownd_nil _ _), (by (try show Ex _ _); repeat (first | (with_reducible exact ex_refl _) | (with_reducible assumption) | (with_reducible refine ex_drewL ?_) | (with_reducible refine ex_appR ?_ _) | (with_reducible refine ex_wx ?_ _) | (with_reducible refine ex_drew ?_) | (with_reducible refine ex_alloc ?_ _)))⟩
    case round =>
      obtain ⟨k, hk, rfl, HO, ⟨X6, rfl⟩⟩ := hrel
      by_cases hlt : k < N
      · obtain ⟨g, off, hla, hg, hcell⟩ := HL.out.pos (by rw [HN.out]; omega)
        cases hla
        obtain ⟨b2, hb2⟩ : ∃ b2, lv[k]? = some b2 := ⟨_, List.getElem?_eq_getElem (by rw [HN.out]; omega)⟩
        obtain ⟨bv2, hc1, hb1⟩ := hcell k b2 hb2
        have HLf : Hid (∀ w', Ex B w' → Calls Tryd.prog 47 #[bv2] w' (Post w' (.agg (rowB 32 (dF (leafD b2)))))) := Lib.hid fun w' k => leafT_any (by have := hsh.out b2 (List.mem_of_getElem? hb2); omega) w' (hb1.ex k) (G.ex (ex_trans hwB.out k))
        have HT : Hid ((lv.take (k + 1)).map leafD = (lv.take k).map leafD ++ [leafD b2]) := Lib.hid (by
          obtain ⟨h1, h2⟩ := List.getElem?_eq_some_iff.1 hb2
          rw [List.take_succ_eq_append_getElem h1, List.map_append, h2]; rfl)
        have hlk : ((lv.take k).map leafD).length ≤ 16 := by rw [List.length_map, List.length_take]; omega
        obtain ⟨va, vc, rfl, _⟩ := hb1.out
        generalize leafD b2 = z at HLf HT
        clear hcell hb1 hb2
        go_wp2_with (first | (go_at_call 47; (with_reducible refine (HLf.out _ (by (try show Ex _ _); repeat (first | (with_reducible exact ex_refl _) | (with_reducible assumption) | (with_reducible refine ex_drewL ?_) | (with_reducible refine ex_appR ?_ _) | (with_reducible refine ex_wx ?_ _) | (with_reducible refine ex_drew ?_) | (with_reducible refine ex_alloc ?_ _)))).mono ?_); rintro e w' ⟨rfl, X7, rfl⟩) | (at_builtin; refine wpAppD (r := [z]) _ _ rfl rfl (HO.out.ex (by (try show Ex _ _); repeat (first | (with_reducible exact ex_refl _) | (with_reducible assumption) | (with_reducible refine ex_drewL ?_) | (with_reducible refine ex_appR ?_ _) | (with_reducible refine ex_wx ?_ _) | (with_reducible refine ex_drew ?_) | (with_reducible refine ex_alloc ?_ _)))) rfl rfl rfl (sld_one z (by (try show Ex _ _); repeat (first | (with_reducible exact ex_refl _) | (with_reducible assumption) | (with_reducible refine ex_drewL ?_) | (with_reducible refine ex_appR ?_ _) | (with_reducible refine ex_wx ?_ _) | (with_reducible refine ex_drew ?_) | (with_reducible refine ex_alloc ?_ _))) (by simp [go_sem])) (by simp only [List.length_singleton]; omega) (by simp [go_sem] <;> omega) (fun v1 w1 hown1 hbe => ?_); obtain ⟨X8, rfl⟩ := exOf (A := B) (by (try show Ex _ _); repeat (first | (with_reducible exact ex_refl _) | (with_reducible assumption) | (with_reducible refine ex_drewL ?_) | (with_reducible refine ex_appR ?_ _) | (with_reducible refine ex_wx ?_ _) | (with_reducible refine ex_drew ?_) | (with_reducible refine ex_alloc ?_ _))) hbe; rw [← HT.out] at hown1; replace hown1 := Lib.hid hown1))
        exact ⟨⟨k + 1, by omega, by go_num, hown1, (by (try show Ex _ _); repeat (first | (with_reducible exact ex_refl _) | (with_reducible assumption) | (with_reducible refine ex_drewL ?_) | (with_reducible refine ex_appR ?_ _) | (with_reducible refine ex_wx ?_ _) | (with_reducible refine ex_drew ?_) | (with_reducible refine ex_alloc ?_ _)))⟩, by simp [intOf]; omega⟩
      · obtain rfl : k = N := by omega
        have HO2 := HO.out
        rw [List.take_of_length_le (Nat.le_of_eq HN.out)] at HO2
        have hlm : (lv.map leafD).length = k := by rw [List.length_map, HN.out]
        obtain ⟨ia, ic, hiv, hi1, hi2, hi3, hi4⟩ := HO2.slg
        subst hiv
        have HI4 := Lib.hid hi4
        rw [hlm] at hi1 ⊢
        have HRt : Hid (∀ w', Ex (wx B X6) w' → Calls Tryd.prog 48 #[.slice ia k ic] w' (Post w' (.tuple #[.agg (rowB 32 (dF (rootD (lv.map leafD)))), I 0]))) := Lib.hid fun w' h => by
          have := Root_any (lv.map leafD) ia ic w' (by omega) (by omega) hi2 (HI4.out.ex h) (G.ex (ex_trans hwB.out (ex_trans ⟨X6, rfl⟩ h)))
          rwa [hlm] at this
        have HLc : Hid (∀ w', Ex B w' → Calls Tryd.prog 47 #[.slice a1 b9.length c1] w' (Post w' (.agg (rowB 32 (dF (leafD b9)))))) := Lib.hid fun w' k => leafT_any (by omega) w' (HCm.out.1.slt.ex k) (G.ex (ex_trans hwB.out k))
        have HHi : Hid (∀ w', Ex B w' → Calls Tryd.prog 49 #[.agg (rowB 32 (dF (rootD (lv.map leafD)))), I k, I j, .agg (rowB 32 (dF (leafD b9))), .slice a3 p9.length c3] w' (Post w' (.bool (decide (ClimbD k j (leafD b9) p9 = some (rootD (lv.map leafD))))))) := Lib.hid fun w' h => by
          obtain ⟨_, Z, h2⟩ := HCm.out
          obtain ⟨_, _, hv, h3, h4, _, h5⟩ := h2.slg
          cases hv
          exact includes_any G _ k j _ p9 a3 c3 w' (ex_trans hwB.out h) h3 h4 (h5.ex h)
        have HPt : Hid (∀ jn : Nat, j = jn → jn < k → ∀ w', Ex (wx B X6) w' → Calls Tryd.prog 50 #[.slice ia k ic, I jn] w' (PostO2 w' (pathD (lv.map leafD) jn))) := Lib.hid fun jn _ hjn w' h => by
          have := path_in (lv.map leafD) ia ic jn w' (by omega) (by omega) hi2 (HI4.out.ex h) (G.ex (ex_trans hwB.out (ex_trans ⟨X6, rfl⟩ h))) (by omega)
          rwa [hlm] at this
        have HPi := Lib.hid fun (jn : Nat) (b : List UInt8) (h : lv[jn]? = some b) => incl_path (l := lv) (by have := HN.out; omega) h
        generalize decide (ClimbD k j (leafD b9) p9 = some (rootD (lv.map leafD))) = zz at HHi HI6
        generalize leafD b9 = y9 at HLc HHi
        generalize rootD (lv.map leafD) = R at HRt HHi
        generalize lv.map leafD = ids at *
        clear hlt hk HO HO2 hi4 hlm
        by_cases hj0 : 0 ≤ j
        · by_cases hj1 : j < k
          · obtain ⟨jn, rfl⟩ : ∃ jn : Nat, j = jn := ⟨j.toNat, by omega⟩
            have t1 : decide ((jn : Int) < 0) = false := decide_eq_false (by omega)
            have t2 : decide ((k : Int) ≤ jn) = false := decide_eq_false (by omega)
            have t3 : decide (k ≤ jn) = false := decide_eq_false (by omega)
            obtain ⟨g, off, hla, hg, hcell⟩ := HL.out.pos (by rw [HN.out]; omega)
            cases hla
            obtain ⟨b3, hb3⟩ : ∃ b3, lv[jn]? = some b3 := ⟨_, List.getElem?_eq_getElem (by rw [HN.out]; omega)⟩
            obtain ⟨bv3, hc3, hb4⟩ := hcell jn b3 hb3
            have hb5 := hsh.out b3 (List.mem_of_getElem? hb3)
            have HPi3 := HPi.out jn b3 hb3
            have HPt3 := Lib.hid (HPt.out jn rfl (by omega))
            obtain ⟨pth, hpth⟩ : ∃ pth, pathD ids jn = pth := ⟨_, rfl⟩
            rw [hpth] at HPi3 HPt3
            have hbo3 : bv3.oneCell' = true := by obtain ⟨_, _, rfl, _⟩ := hb4.out; rfl
            have HI7 : Hid (∀ w' pa3 pc3, Ex B w' → pth.length ≤ pc3 → pc3 ≤ maxLen → SlD w' pa3 pth → Calls Tryd.prog 33 #[I 256, .slice (some ⟨g, off, none⟩) k lc, .agg #[I jn, bv3, .slice pa3 pth.length pc3]] w' (Post w' (.bool true))) := Lib.hid fun w' pa3 pc3 h h3 h4 h5 => by
              have := includes_bc (w := w') 256 (.slice (some ⟨g, off, none⟩) lv.length lc) (.agg #[I jn, bv3, .slice pa3 pth.length pc3]) _ ⟨_, _, _, rfl, hbo3, rfl⟩ fun w2 k2 => included_any G 256 hb5 (bv := bv3) lv (some ⟨g, off, none⟩) lc jn pth pa3 pc3 w2 (by have := HN.out; omega) hl2 (fun _ => ⟨HL.out.ex (ex_trans h k2), hsh.out⟩) hbo3 (fun _ => hb4.ex (ex_trans h k2)) h3 h4 (h5.ex k2) (ex_trans hwB.out (ex_trans h k2))
              rwa [HN.out, HPi3] at this
            obtain ⟨va, vc, rfl, _⟩ := hb4.out
            have hj2 : (jn : Int) < k := by omega
            have hj3 : (0 : Int) ≤ jn := by omega
            have hj4 : jn < k := by omega
            clear hcell hb3 HPt HPi hpth HPi3 hb5
            go_wp2_with (go_at_call 48; (with_reducible refine (HRt.out _ (by (try show Ex _ _); repeat (first | (with_reducible exact ex_refl _) | (with_reducible assumption) | (with_reducible refine ex_drewL ?_) | (with_reducible refine ex_appR ?_ _) | (with_reducible refine ex_wx ?_ _) | (with_reducible refine ex_drew ?_) | (with_reducible refine ex_alloc ?_ _)))).mono ?_); rintro e w' ⟨rfl, X7, rfl⟩)
            refine wp_region_seq [(0, true), (1, true), (2, true), (3, true), (4, true), (6, true), (7, true), (8, true), (9, true), (10, true), (11, true), (12, true), (14, true), (15, true), (5, false), (13, false), (16, false), (17, true), (18, true)] (by kernel_rfl) (by kernel_rfl) (fun _ _ d _ _ h => by cases d <;> exact h) ?_
            simp only [List.map_cons, List.map_nil, nth]
            repeat (first | ((with_reducible refine wpSeq_look ?_); go_big_quiet_step (fail); (with_reducible refine wpQuiet_nil ?_)) | ((with_reducible refine wpSeq_effF ?_ ?_); (focus rfl); go_simp) | ((with_reducible refine wpSeq_eff ?_ ?_); (focus rfl); (try dsimp only); go_wp2_with (first | (go_at_call 33; (with_reducible refine (HI6.out _ (by (try show Ex _ _); repeat (first | (with_reducible exact ex_refl _) | (with_reducible assumption) | (with_reducible refine ex_drewL ?_) | (with_reducible refine ex_appR ?_ _) | (with_reducible refine ex_wx ?_ _) | (with_reducible refine ex_drew ?_) | (with_reducible refine ex_alloc ?_ _)))).mono ?_); rintro e w' ⟨rfl, X8, rfl⟩) | (go_at_call 47; (with_reducible refine (HLc.out _ (by (try show Ex _ _); repeat (first | (with_reducible exact ex_refl _) | (with_reducible assumption) | (with_reducible refine ex_drewL ?_) | (with_reducible refine ex_appR ?_ _) | (with_reducible refine ex_wx ?_ _) | (with_reducible refine ex_drew ?_) | (with_reducible refine ex_alloc ?_ _)))).mono ?_); rintro e w' ⟨rfl, X9, rfl⟩) | (go_at_call 49; (with_reducible refine (HHi.out _ (by (try show Ex _ _); repeat (first | (with_reducible exact ex_refl _) | (with_reducible assumption) | (with_reducible refine ex_drewL ?_) | (with_reducible refine ex_appR ?_ _) | (with_reducible refine ex_wx ?_ _) | (with_reducible refine ex_drew ?_) | (with_reducible refine ex_alloc ?_ _)))).mono ?_); rintro e w' ⟨rfl, X10, rfl⟩)); refine mixQ_mk (by (try show Ex _ _); repeat (first | (with_reducible exact ex_refl _) | (with_reducible assumption) | (with_reducible refine ex_drewL ?_) | (with_reducible refine ex_appR ?_ _) | (with_reducible refine ex_wx ?_ _) | (with_reducible refine ex_drew ?_) | (with_reducible refine ex_alloc ?_ _))) ?_))
            refine wpSeq_nil ?_
            go_wp2_with (go_at_call 50; (with_reducible refine (HPt3.out _ (by (try show Ex _ _); repeat (first | (with_reducible exact ex_refl _) | (with_reducible assumption) | (with_reducible refine ex_drewL ?_) | (with_reducible refine ex_appR ?_ _) | (with_reducible refine ex_wx ?_ _) | (with_reducible refine ex_drew ?_) | (with_reducible refine ex_alloc ?_ _)))).mono ?_); rintro e w' ⟨pv, rfl, h13, X13, rfl⟩; (try simp only [wx_wx, wx_drew] at h13); obtain ⟨pa3, pc3, rfl, f1, f2, _, f4⟩ := h13.slg; clear h13; replace f4 := Lib.hid f4)
            refine wp_region_seq [(0, true), (1, true), (2, true), (3, true), (4, true), (5, true), (6, true), (7, true), (8, true), (9, true), (10, true), (11, true), (12, true), (13, false), (14, true), (15, true)] (by kernel_rfl) (by kernel_rfl) (fun _ _ d _ _ h => by cases d <;> exact h) ?_
            simp only [List.map_cons, List.map_nil, nth]
            repeat (first | ((with_reducible refine wpSeq_look ?_); go_big_quiet_step (fail); (with_reducible refine wpQuiet_nil ?_)) | ((with_reducible refine wpSeq_effF ?_ ?_); (focus rfl); go_simp) | ((with_reducible refine wpSeq_eff ?_ ?_); (focus rfl); (try dsimp only); go_wp2_with ((go_at_call 33; (with_reducible refine (HI7.out _ _ _ (by (try show Ex _ _); repeat (first | (with_reducible exact ex_refl _) | (with_reducible assumption) | (with_reducible refine ex_drewL ?_) | (with_reducible refine ex_appR ?_ _) | (with_reducible refine ex_wx ?_ _) | (with_reducible refine ex_drew ?_) | (with_reducible refine ex_alloc ?_ _))) f1 f2 (f4.out.ex (by (try show Ex _ _); repeat (first | (with_reducible exact ex_refl _) | (with_reducible assumption) | (with_reducible refine ex_drewL ?_) | (with_reducible refine ex_appR ?_ _) | (with_reducible refine ex_wx ?_ _) | (with_reducible refine ex_drew ?_) | (with_reducible refine ex_alloc ?_ _))))).mono ?_); rintro e w' ⟨rfl, X14, rfl⟩)); refine mixQ_mk (by (try show Ex _ _); repeat (first | (with_reducible exact ex_refl _) | (with_reducible assumption) | (with_reducible refine ex_drewL ?_) | (with_reducible refine ex_appR ?_ _) | (with_reducible refine ex_wx ?_ _) | (with_reducible refine ex_drew ?_) | (with_reducible refine ex_alloc ?_ _))) ?_))
            refine wpSeq_nil ?_
            go_wp2
            go_ret
            exact post_mk rfl (ex_trans hwB.out (by (try show Ex _ _); repeat (first | (with_reducible exact ex_refl _) | (with_reducible assumption) | (with_reducible refine ex_drewL ?_) | (with_reducible refine ex_appR ?_ _) | (with_reducible refine ex_wx ?_ _) | (with_reducible refine ex_drew ?_) | (with_reducible refine ex_alloc ?_ _))))
          · have t1 : decide (j < 0) = false := decide_eq_false (by omega)
            have t2 : decide ((k : Int) ≤ j) = true := decide_eq_true (by omega)
            go_wp2_with (go_at_call 48; (with_reducible refine (HRt.out _ (by (try show Ex _ _); repeat (first | (with_reducible exact ex_refl _) | (with_reducible assumption) | (with_reducible refine ex_drewL ?_) | (with_reducible refine ex_appR ?_ _) | (with_reducible refine ex_wx ?_ _) | (with_reducible refine ex_drew ?_) | (with_reducible refine ex_alloc ?_ _)))).mono ?_); rintro e w' ⟨rfl, X7, rfl⟩)
            refine wp_region_seq [(0, true), (1, true), (2, true), (3, true), (4, true), (6, true), (7, true), (8, true), (9, true), (10, true), (11, true), (12, true), (14, true), (15, true), (5, false), (13, false), (16, false), (17, true), (18, true)] (by kernel_rfl) (by kernel_rfl) (fun _ _ d _ _ h => by cases d <;> exact h) ?_
            simp only [List.map_cons, List.map_nil, nth]
            repeat (first | ((with_reducible refine wpSeq_look ?_); go_big_quiet_step (fail); (with_reducible refine wpQuiet_nil ?_)) | ((with_reducible refine wpSeq_effF ?_ ?_); (focus rfl); go_simp) | ((with_reducible refine wpSeq_eff ?_ ?_); (focus rfl); (try dsimp only); go_wp2_with (first | (go_at_call 33; (with_reducible refine (HI6.out _ (by (try show Ex _ _); repeat (first | (with_reducible exact ex_refl _) | (with_reducible assumption) | (with_reducible refine ex_drewL ?_) | (with_reducible refine ex_appR ?_ _) | (with_reducible refine ex_wx ?_ _) | (with_reducible refine ex_drew ?_) | (with_reducible refine ex_alloc ?_ _)))).mono ?_); rintro e w' ⟨rfl, X8, rfl⟩) | (go_at_call 47; (with_reducible refine (HLc.out _ (by (try show Ex _ _); repeat (first | (with_reducible exact ex_refl _) | (with_reducible assumption) | (with_reducible refine ex_drewL ?_) | (with_reducible refine ex_appR ?_ _) | (with_reducible refine ex_wx ?_ _) | (with_reducible refine ex_drew ?_) | (with_reducible refine ex_alloc ?_ _)))).mono ?_); rintro e w' ⟨rfl, X9, rfl⟩) | (go_at_call 49; (with_reducible refine (HHi.out _ (by (try show Ex _ _); repeat (first | (with_reducible exact ex_refl _) | (with_reducible assumption) | (with_reducible refine ex_drewL ?_) | (with_reducible refine ex_appR ?_ _) | (with_reducible refine ex_wx ?_ _) | (with_reducible refine ex_drew ?_) | (with_reducible refine ex_alloc ?_ _)))).mono ?_); rintro e w' ⟨rfl, X10, rfl⟩)); refine mixQ_mk (by (try show Ex _ _); repeat (first | (with_reducible exact ex_refl _) | (with_reducible assumption) | (with_reducible refine ex_drewL ?_) | (with_reducible refine ex_appR ?_ _) | (with_reducible refine ex_wx ?_ _) | (with_reducible refine ex_drew ?_) | (with_reducible refine ex_alloc ?_ _))) ?_))
            refine wpSeq_nil ?_
            go_wp2
            go_ret
            exact post_mk rfl (ex_trans hwB.out (by (try show Ex _ _); repeat (first | (with_reducible exact ex_refl _) | (with_reducible assumption) | (with_reducible refine ex_drewL ?_) | (with_reducible refine ex_appR ?_ _) | (with_reducible refine ex_wx ?_ _) | (with_reducible refine ex_drew ?_) | (with_reducible refine ex_alloc ?_ _))))
        · have t1 : decide (j < 0) = true := decide_eq_true (by omega)
          go_wp2_with (go_at_call 48; (with_reducible refine (HRt.out _ (by (try show Ex _ _); repeat (first | (with_reducible exact ex_refl _) | (with_reducible assumption) | (with_reducible refine ex_drewL ?_) | (with_reducible refine ex_appR ?_ _) | (with_reducible refine ex_wx ?_ _) | (with_reducible refine ex_drew ?_) | (with_reducible refine ex_alloc ?_ _)))).mono ?_); rintro e w' ⟨rfl, X7, rfl⟩)
          refine wp_region_seq [(0, true), (1, true), (2, true), (3, true), (4, true), (6, true), (7, true), (8, true), (9, true), (10, true), (11, true), (12, true), (14, true), (15, true), (5, false), (13, false), (16, false), (17, true), (18, true)] (by kernel_rfl) (by kernel_rfl) (fun _ _ d _ _ h => by cases d <;> exact h) ?_
          simp only [List.map_cons, List.map_nil, nth]
          repeat (first | ((with_reducible refine wpSeq_look ?_); go_big_quiet_step (fail); (with_reducible refine wpQuiet_nil ?_)) | ((with_reducible refine wpSeq_effF ?_ ?_); (focus rfl); go_simp) | ((with_reducible refine wpSeq_eff ?_ ?_); (focus rfl); (try dsimp only); go_wp2_with (first | (go_at_call 33; (with_reducible refine (HI6.out _ (by (try show Ex _ _); repeat (first | (with_reducible exact ex_refl _) | (with_reducible assumption) | (with_reducible refine ex_drewL ?_) | (with_reducible refine ex_appR ?_ _) | (with_reducible refine ex_wx ?_ _) | (with_reducible refine ex_drew ?_) | (with_reducible refine ex_alloc ?_ _)))).mono ?_); rintro e w' ⟨rfl, X8, rfl⟩) | (go_at_call 47; (with_reducible refine (HLc.out _ (by (try show Ex _ _); repeat (first | (with_reducible exact ex_refl _) | (with_reducible assumption) | (with_reducible refine ex_drewL ?_) | (with_reducible refine ex_appR ?_ _) | (with_reducible refine ex_wx ?_ _) | (with_reducible refine ex_drew ?_) | (with_reducible refine ex_alloc ?_ _)))).mono ?_); rintro e w' ⟨rfl, X9, rfl⟩) | (go_at_call 49; (with_reducible refine (HHi.out _ (by (try show Ex _ _); repeat (first | (with_reducible exact ex_refl _) | (with_reducible assumption) | (with_reducible refine ex_drewL ?_) | (with_reducible refine ex_appR ?_ _) | (with_reducible refine ex_wx ?_ _) | (with_reducible refine ex_drew ?_) | (with_reducible refine ex_alloc ?_ _)))).mono ?_); rintro e w' ⟨rfl, X10, rfl⟩)); refine mixQ_mk (by (try show Ex _ _); repeat (first | (with_reducible exact ex_refl _) | (with_reducible assumption) | (with_reducible refine ex_drewL ?_) | (with_reducible refine ex_appR ?_ _) | (with_reducible refine ex_wx ?_ _) | (with_reducible refine ex_drew ?_) | (with_reducible refine ex_alloc ?_ _))) ?_))
          refine wpSeq_nil ?_
          go_wp2
          go_ret
          exact post_mk rfl (ex_trans hwB.out (by (try show Ex _ _); repeat (first | (with_reducible exact ex_refl _) | (with_reducible assumption) | (with_reducible refine ex_drewL ?_) | (with_reducible refine ex_appR ?_ _) | (with_reducible refine ex_wx ?_ _) | (with_reducible refine ex_drew ?_) | (with_reducible refine ex_alloc ?_ _))))
  | none =>
    cases r with
    | true =>
      obtain ⟨hj0, hj1, hj2⟩ := F2.out rfl rfl
      obtain ⟨g, off, rfl, hg, hcell⟩ := HL.out.pos (by rw [HN.out]; omega)
      obtain ⟨bv3, hc3, hb4⟩ := hcell j.toNat b9 hj2
      have HE : Hid (∀ w', Ex B w' → Calls Tryd.prog 35 #[bv3, .slice a1 b9.length c1] w' (Post w' (.bool true))) := Lib.hid fun w' k => by
        have := bytesEq_any (hb4.ex k) (HCm.out.1.slt.ex k)
        rwa [decide_eq_true rfl] at this
      obtain ⟨va, vc, rfl, _⟩ := hb4.out
      clear hcell hj2
      go_wp2_with (first | (go_at_call 33; (with_reducible refine (HIn1.out _ (by (try show Ex _ _); repeat (first | (with_reducible exact ex_refl _) | (with_reducible assumption) | (with_reducible refine ex_drewL ?_) | (with_reducible refine ex_appR ?_ _) | (with_reducible refine ex_wx ?_ _) | (with_reducible refine ex_drew ?_) | (with_reducible refine ex_alloc ?_ _)))).mono ?_); rintro e w' ⟨rfl, X4, rfl⟩) | (go_at_call 31; (with_reducible refine (HI.out _ (by (try show Ex _ _); repeat (first | (with_reducible exact ex_refl _) | (with_reducible assumption) | (with_reducible refine ex_drewL ?_) | (with_reducible refine ex_appR ?_ _) | (with_reducible refine ex_wx ?_ _) | (with_reducible refine ex_drew ?_) | (with_reducible refine ex_alloc ?_ _)))).mono ?_); rintro e w' ⟨sa, sb, rfl, ⟨X5, rfl⟩, hcs⟩; (try simp only [wx_wx, wx_drew] at hcs); obtain ⟨s1, s2⟩ := hcs.one; replace hcs := Lib.hid hcs))
      refine wp_region_seq [(0, true), (1, true), (2, true), (3, true), (4, true), (5, true), (6, true), (7, true), (8, true), (9, true), (10, true), (11, true), (12, true), (13, false), (14, true), (15, true)] (by kernel_rfl) (by kernel_rfl) (fun _ _ d _ _ h => by cases d <;> exact h) ?_
      simp only [List.map_cons, List.map_nil, nth]
      repeat (first | ((with_reducible refine wpSeq_look ?_); go_big_quiet_step (fail); (with_reducible refine wpQuiet_nil ?_)) | ((with_reducible refine wpSeq_effF ?_ ?_); (focus rfl); go_simp) | ((with_reducible refine wpSeq_eff ?_ ?_); (focus rfl); (try dsimp only); go_wp2_with ((go_at_call 35; (with_reducible refine (HE.out _ (by (try show Ex _ _); repeat (first | (with_reducible exact ex_refl _) | (with_reducible assumption) | (with_reducible refine ex_drewL ?_) | (with_reducible refine ex_appR ?_ _) | (with_reducible refine ex_wx ?_ _) | (with_reducible refine ex_drew ?_) | (with_reducible refine ex_alloc ?_ _)))).mono ?_); rintro e w' ⟨rfl, X5b, rfl⟩)); refine mixQ_mk (by (try show Ex _ _); repeat (first | (with_reducible exact ex_refl _) | (with_reducible assumption) | (with_reducible refine ex_drewL ?_) | (with_reducible refine ex_appR ?_ _) | (with_reducible refine ex_wx ?_ _) | (with_reducible refine ex_drew ?_) | (with_reducible refine ex_alloc ?_ _))) ?_))
      refine wpSeq_nil ?_
      clear hj0 hj1 hc3 HE hg
      go_wp2
      go_loopw [9, 64] (fun v i W' => ∃ k : Nat, k ≤ N ∧ i = I k ∧ Hid (OwnD W' B.heap.size v ((lv.take k).map leafD)) ∧ Ex B W') (fun _ i _ => N - (intOf i).toNat)
      case atStart => exact ⟨0, by omega, rfl, Lib.hid (ownd_nil _ _), (by (try show Ex _ _); repeat (first | (with_reducible exact ex_refl _) | (with_reducible assumption) | (with_reducible refine ex_drewL ?_) | (with_reducible refine ex_appR ?_ _) | (with_reducible refine ex_wx ?_ _) | (with_reducible refine ex_drew ?_) | (with_reducible refine ex_alloc ?_ _)))⟩
      case round =>
        obtain ⟨k, hk, rfl, HO, ⟨X6, rfl⟩⟩ := hrel
        by_cases hlt : k < N
        · obtain ⟨g, off, hla, hg, hcell⟩ := HL.out.pos (by rw [HN.out]; omega)
          cases hla
          obtain ⟨b2, hb2⟩ : ∃ b2, lv[k]? = some b2 := ⟨_, List.getElem?_eq_getElem (by rw [HN.out]; omega)⟩
          obtain ⟨bv2, hc1, hb1⟩ := hcell k b2 hb2
          have HLf : Hid (∀ w', Ex B w' → Calls Tryd.prog 47 #[bv2] w' (Post w' (.agg (rowB 32 (dF (leafD b2)))))) := Lib.hid fun w' k => leafT_any (by have := hsh.out b2 (List.mem_of_getElem? hb2); omega) w' (hb1.ex k) (G.ex (ex_trans hwB.out k))
          have HT : Hid ((lv.take (k + 1)).map leafD = (lv.take k).map leafD ++ [leafD b2]) := Lib.hid (by
            obtain ⟨h1, h2⟩ := List.getElem?_eq_some_iff.1 hb2
            rw [List.take_succ_eq_append_getElem h1, List.map_append, h2]; rfl)
          have hlk : ((lv.take k).map leafD).length ≤ 16 := by rw [List.length_map, List.length_take]; omega
          obtain ⟨va, vc, rfl, _⟩ := hb1.out
          generalize leafD b2 = z at HLf HT
          clear hcell hb1 hb2
          go_wp2_with (first | (go_at_call 47; (with_reducible refine (HLf.out _ (by (try show Ex _ _); repeat (first | (with_reducible exact ex_refl _) | (with_reducible assumption) | (with_reducible refine ex_drewL ?_) | (with_reducible refine ex_appR ?_ _) | (with_reducible refine ex_wx ?_ _) | (with_reducible refine ex_drew ?_) | (with_reducible refine ex_alloc ?_ _)))).mono ?_); rintro e w' ⟨rfl, X7, rfl⟩) | (at_builtin; refine wpAppD (r := [z]) _ _ rfl rfl (HO.out.ex (by (try show Ex _ _); repeat (first | (with_reducible exact ex_refl _) | (with_reducible assumption) | (with_reducible refine ex_drewL ?_) | (with_reducible refine ex_appR ?_ _) | (with_reducible refine ex_wx ?_ _) | (with_reducible refine ex_drew ?_) | (with_reducible refine ex_alloc ?_ _)))) rfl rfl rfl (sld_one z (by (try show Ex _ _); repeat (first | (with_reducible exact ex_refl _) | (with_reducible assumption) | (with_reducible refine ex_drewL ?_) | (with_reducible refine ex_appR ?_ _) | (with_reducible refine ex_wx ?_ _) | (with_reducible refine ex_drew ?_) | (with_reducible refine ex_alloc ?_ _))) (by simp [go_sem])) (by simp only [List.length_singleton]; omega) (by simp [go_sem] <;> omega) (fun v1 w1 hown1 hbe => ?_); obtain ⟨X8, rfl⟩ := exOf (A := B) (by (try show Ex _ _); repeat (first | (with_reducible exact ex_refl _) | (with_reducible assumption) | (with_reducible refine ex_drewL ?_) | (with_reducible refine ex_appR ?_ _) | (with_reducible refine ex_wx ?_ _) | (with_reducible refine ex_drew ?_) | (with_reducible refine ex_alloc ?_ _))) hbe; rw [← HT.out] at hown1; replace hown1 := Lib.hid hown1))
          exact ⟨⟨k + 1, by omega, by go_num, hown1, (by (try show Ex _ _); repeat (first | (with_reducible exact ex_refl _) | (with_reducible assumption) | (with_reducible refine ex_drewL ?_) | (with_reducible refine ex_appR ?_ _) | (with_reducible refine ex_wx ?_ _) | (with_reducible refine ex_drew ?_) | (with_reducible refine ex_alloc ?_ _)))⟩, by simp [intOf]; omega⟩
        · obtain rfl : k = N := by omega
          have HO2 := HO.out
          rw [List.take_of_length_le (Nat.le_of_eq HN.out)] at HO2
          have hlm : (lv.map leafD).length = k := by rw [List.length_map, HN.out]
          obtain ⟨ia, ic, hiv, hi1, hi2, hi3, hi4⟩ := HO2.slg
          subst hiv
          have HI4 := Lib.hid hi4
          rw [hlm] at hi1 ⊢
          have HRt : Hid (∀ w', Ex (wx B X6) w' → Calls Tryd.prog 48 #[.slice ia k ic] w' (Post w' (.tuple #[.agg (rowB 32 (dF (rootD (lv.map leafD)))), I 0]))) := Lib.hid fun w' h => by
            have := Root_any (lv.map leafD) ia ic w' (by omega) (by omega) hi2 (HI4.out.ex h) (G.ex (ex_trans hwB.out (ex_trans ⟨X6, rfl⟩ h)))
            rwa [hlm] at this
          have HLc : Hid (∀ w', Ex B w' → Calls Tryd.prog 47 #[.slice a1 b9.length c1] w' (Post w' (.agg (rowB 32 (dF (leafD b9)))))) := Lib.hid fun w' k => leafT_any (by omega) w' (HCm.out.1.slt.ex k) (G.ex (ex_trans hwB.out k))
          have HHi : Hid (∀ w', Ex B w' → Calls Tryd.prog 49 #[.agg (rowB 32 (dF (rootD (lv.map leafD)))), I k, I j, .agg (rowB 32 (dF (leafD b9))), .slice a3 p9.length c3] w' (Post w' (.bool (decide (ClimbD k j (leafD b9) p9 = some (rootD (lv.map leafD))))))) := Lib.hid fun w' h => by
            obtain ⟨_, Z, h2⟩ := HCm.out
            obtain ⟨_, _, hv, h3, h4, _, h5⟩ := h2.slg
            cases hv
            exact includes_any G _ k j _ p9 a3 c3 w' (ex_trans hwB.out h) h3 h4 (h5.ex h)
          have HPt : Hid (∀ jn : Nat, j = jn → jn < k → ∀ w', Ex (wx B X6) w' → Calls Tryd.prog 50 #[.slice ia k ic, I jn] w' (PostO2 w' (pathD (lv.map leafD) jn))) := Lib.hid fun jn _ hjn w' h => by
            have := path_in (lv.map leafD) ia ic jn w' (by omega) (by omega) hi2 (HI4.out.ex h) (G.ex (ex_trans hwB.out (ex_trans ⟨X6, rfl⟩ h))) (by omega)
            rwa [hlm] at this
          have HPi := Lib.hid fun (jn : Nat) (b : List UInt8) (h : lv[jn]? = some b) => incl_path (l := lv) (by have := HN.out; omega) h
          generalize decide (ClimbD k j (leafD b9) p9 = some (rootD (lv.map leafD))) = zz at HHi HI6
          generalize leafD b9 = y9 at HLc HHi
          generalize rootD (lv.map leafD) = R at HRt HHi
          generalize lv.map leafD = ids at *
          clear hlt hk HO HO2 hi4 hlm
          by_cases hj0 : 0 ≤ j
          · by_cases hj1 : j < k
            · obtain ⟨jn, rfl⟩ : ∃ jn : Nat, j = jn := ⟨j.toNat, by omega⟩
              have t1 : decide ((jn : Int) < 0) = false := decide_eq_false (by omega)
              have t2 : decide ((k : Int) ≤ jn) = false := decide_eq_false (by omega)
              have t3 : decide (k ≤ jn) = false := decide_eq_false (by omega)
              obtain ⟨g, off, hla, hg, hcell⟩ := HL.out.pos (by rw [HN.out]; omega)
              cases hla
              obtain ⟨b3, hb3⟩ : ∃ b3, lv[jn]? = some b3 := ⟨_, List.getElem?_eq_getElem (by rw [HN.out]; omega)⟩
              obtain ⟨bv3, hc3, hb4⟩ := hcell jn b3 hb3
              have hb5 := hsh.out b3 (List.mem_of_getElem? hb3)
              have HPi3 := HPi.out jn b3 hb3
              have HPt3 := Lib.hid (HPt.out jn rfl (by omega))
              obtain ⟨pth, hpth⟩ : ∃ pth, pathD ids jn = pth := ⟨_, rfl⟩
              rw [hpth] at HPi3 HPt3
              have hbo3 : bv3.oneCell' = true := by obtain ⟨_, _, rfl, _⟩ := hb4.out; rfl
              have HI7 : Hid (∀ w' pa3 pc3, Ex B w' → pth.length ≤ pc3 → pc3 ≤ maxLen → SlD w' pa3 pth → Calls Tryd.prog 33 #[I 256, .slice (some ⟨g, off, none⟩) k lc, .agg #[I jn, bv3, .slice pa3 pth.length pc3]] w' (Post w' (.bool true))) := Lib.hid fun w' pa3 pc3 h h3 h4 h5 => by
                have := includes_bc (w := w') 256 (.slice (some ⟨g, off, none⟩) lv.length lc) (.agg #[I jn, bv3, .slice pa3 pth.length pc3]) _ ⟨_, _, _, rfl, hbo3, rfl⟩ fun w2 k2 => included_any G 256 hb5 (bv := bv3) lv (some ⟨g, off, none⟩) lc jn pth pa3 pc3 w2 (by have := HN.out; omega) hl2 (fun _ => ⟨HL.out.ex (ex_trans h k2), hsh.out⟩) hbo3 (fun _ => hb4.ex (ex_trans h k2)) h3 h4 (h5.ex k2) (ex_trans hwB.out (ex_trans h k2))
                rwa [HN.out, HPi3] at this
              obtain ⟨va, vc, rfl, _⟩ := hb4.out
              have hj2 : (jn : Int) < k := by omega
              have hj3 : (0 : Int) ≤ jn := by omega
              have hj4 : jn < k := by omega
              clear hcell hb3 HPt HPi hpth HPi3 hb5
              go_wp2_with (go_at_call 48; (with_reducible refine (HRt.out _ (by (try show Ex _ _); repeat (first | (with_reducible exact ex_refl _) | (with_reducible assumption) | (with_reducible refine ex_drewL ?_) | (with_reducible refine ex_appR ?_ _) | (with_reducible refine ex_wx ?_ _) | (with_reducible refine ex_drew ?_) | (with_reducible refine ex_alloc ?_ _)))).mono ?_); rintro e w' ⟨rfl, X7, rfl⟩)
              refine wp_region_seq [(0, true), (1, true), (2, true), (3, true), (4, true), (6, true), (7, true), (8, true), (9, true), (10, true), (11, true), (12, true), (14, true), (15, true), (5, false), (13, false), (16, false), (17, true), (18, true)] (by kernel_rfl) (by kernel_rfl) (fun _ _ d _ _ h => by cases d <;> exact h) ?_
              simp only [List.map_cons, List.map_nil, nth]
              repeat (first | ((with_reducible refine wpSeq_look ?_); go_big_quiet_step (fail); (with_reducible refine wpQuiet_nil ?_)) | ((with_reducible refine wpSeq_effF ?_ ?_); (focus rfl); go_simp) | ((with_reducible refine wpSeq_eff ?_ ?_); (focus rfl); (try dsimp only); go_wp2_with (first | (go_at_call 33; (with_reducible refine (HI6.out _ (by (try show Ex _ _); repeat (first | (with_reducible exact ex_refl _) | (with_reducible assumption) | (with_reducible refine ex_drewL ?_) | (with_reducible refine ex_appR ?_ _) | (with_reducible refine ex_wx ?_ _) | (with_reducible refine ex_drew ?_) | (with_reducible refine ex_alloc ?_ _)))).mono ?_); rintro e w' ⟨rfl, X8, rfl⟩) | (go_at_call 47; (with_reducible refine (HLc.out _ (by (try show Ex _ _); repeat (first | (with_reducible exact ex_refl _) | (with_reducible assumption) | (with_reducible refine ex_drewL ?_) | (with_reducible refine ex_appR ?_ _) | (with_reducible refine ex_wx ?_ _) | (with_reducible refine ex_drew ?_) | (with_reducible refine ex_alloc ?_ _)))).mono ?_); rintro e w' ⟨rfl, X9, rfl⟩) | (go_at_call 49; (with_reducible refine (HHi.out _ (by (try show Ex _ _); repeat (first | (with_reducible exact ex_refl _) | (with_reducible assumption) | (with_reducible refine ex_drewL ?_) | (with_reducible refine ex_appR ?_ _) | (with_reducible refine ex_wx ?_ _) | (with_reducible refine ex_drew ?_) | (with_reducible refine ex_alloc ?_ _)))).mono ?_); rintro e w' ⟨rfl, X10, rfl⟩)); refine mixQ_mk (by (try show Ex _ _); repeat (first | (with_reducible exact ex_refl _) | (with_reducible assumption) | (with_reducible refine ex_drewL ?_) | (with_reducible refine ex_appR ?_ _) | (with_reducible refine ex_wx ?_ _) | (with_reducible refine ex_drew ?_) | (with_reducible refine ex_alloc ?_ _))) ?_))
              refine wpSeq_nil ?_
              go_wp2_with (go_at_call 50; (with_reducible refine (HPt3.out _ (by (try show Ex _ _); repeat (first | (with_reducible exact ex_refl _) | (with_reducible assumption) | (with_reducible refine ex_drewL ?_) | (with_reducible refine ex_appR ?_ _) | (with_reducible refine ex_wx ?_ _) | (with_reducible refine ex_drew ?_) | (with_reducible refine ex_alloc ?_ _)))).mono ?_); rintro e w' ⟨pv, rfl, h13, X13, rfl⟩; (try simp only [wx_wx, wx_drew] at h13); obtain ⟨pa3, pc3, rfl, f1, f2, _, f4⟩ := h13.slg; clear h13; replace f4 := Lib.hid f4)
              refine wp_region_seq [(0, true), (1, true), (2, true), (3, true), (4, true), (5, true), (6, true), (7, true), (8, true), (9, true), (10, true), (11, true), (12, true), (13, false), (14, true), (15, true)] (by kernel_rfl) (by kernel_rfl) (fun _ _ d _ _ h => by cases d <;> exact h) ?_
              simp only [List.map_cons, List.map_nil, nth]
              repeat (first | ((with_reducible refine wpSeq_look ?_); go_big_quiet_step (fail); (with_reducible refine wpQuiet_nil ?_)) | ((with_reducible refine wpSeq_effF ?_ ?_); (focus rfl); go_simp) | ((with_reducible refine wpSeq_eff ?_ ?_); (focus rfl); (try dsimp only); go_wp2_with ((go_at_call 33; (with_reducible refine (HI7.out _ _ _ (by (try show Ex _ _); repeat (first | (with_reducible exact ex_refl _) | (with_reducible assumption) | (with_reducible refine ex_drewL ?_) | (with_reducible refine ex_appR ?_ _) | (with_reducible refine ex_wx ?_ _) | (with_reducible refine ex_drew ?_) | (with_reducible refine ex_alloc ?_ _))) f1 f2 (f4.out.ex (by (try show Ex _ _); repeat (first | (with_reducible exact ex_refl _) | (with_reducible assumption) | (with_reducible refine ex_drewL ?_) | (with_reducible refine ex_appR ?_ _) | (with_reducible refine ex_wx ?_ _) | (with_reducible refine ex_drew ?_) | (with_reducible refine ex_alloc ?_ _))))).mono ?_); rintro e w' ⟨rfl, X14, rfl⟩)); refine mixQ_mk (by (try show Ex _ _); repeat (first | (with_reducible exact ex_refl _) | (with_reducible assumption) | (with_reducible refine ex_drewL ?_) | (with_reducible refine ex_appR ?_ _) | (with_reducible refine ex_wx ?_ _) | (with_reducible refine ex_drew ?_) | (with_reducible refine ex_alloc ?_ _))) ?_))
              refine wpSeq_nil ?_
              go_wp2
              go_ret
              exact post_mk rfl (ex_trans hwB.out (by (try show Ex _ _); repeat (first | (with_reducible exact ex_refl _) | (with_reducible assumption) | (with_reducible refine ex_drewL ?_) | (with_reducible refine ex_appR ?_ _) | (with_reducible refine ex_wx ?_ _) | (with_reducible refine ex_drew ?_) | (with_reducible refine ex_alloc ?_ _))))
            · have t1 : decide (j < 0) = false := decide_eq_false (by omega)
              have t2 : decide ((k : Int) ≤ j) = true := decide_eq_true (by omega)
              go_wp2_with (go_at_call 48; (with_reducible refine (HRt.out _ (by (try show Ex _ _); repeat (first | (with_reducible exact ex_refl _) | (with_reducible assumption) | (with_reducible refine ex_drewL ?_) | (with_reducible refine ex_appR ?_ _) | (with_reducible refine ex_wx ?_ _) | (with_reducible refine ex_drew ?_) | (with_reducible refine ex_alloc ?_ _)))).mono ?_); rintro e w' ⟨rfl, X7, rfl⟩)
              refine wp_region_seq [(0, true), (1, true), (2, true), (3, true), (4, true), (6, true), (7, true), (8, true), (9, true), (10, true), (11, true), (12, true), (14, true), (15, true), (5, false), (13, false), (16, false), (17, true), (18, true)] (by kernel_rfl) (by kernel_rfl) (fun _ _ d _ _ h => by cases d <;> exact h) ?_
              simp only [List.map_cons, List.map_nil, nth]
              repeat (first | ((with_reducible refine wpSeq_look ?_); go_big_quiet_step (fail); (with_reducible refine wpQuiet_nil ?_)) | ((with_reducible refine wpSeq_effF ?_ ?_); (focus rfl); go_simp) | ((with_reducible refine wpSeq_eff ?_ ?_); (focus rfl); (try dsimp only); go_wp2_with (first | (go_at_call 33; (with_reducible refine (HI6.out _ (by (try show Ex _ _); repeat (first | (with_reducible exact ex_refl _) | (with_reducible assumption) | (with_reducible refine ex_drewL ?_) | (with_reducible refine ex_appR ?_ _) | (with_reducible refine ex_wx ?_ _) | (with_reducible refine ex_drew ?_) | (with_reducible refine ex_alloc ?_ _)))).mono ?_); rintro e w' ⟨rfl, X8, rfl⟩) | (go_at_call 47; (with_reducible refine (HLc.out _ (by (try show Ex _ _); repeat (first | (with_reducible exact ex_refl _) | (with_reducible assumption) | (with_reducible refine ex_drewL ?_) | (with_reducible refine ex_appR ?_ _) | (with_reducible refine ex_wx ?_ _) | (with_reducible refine ex_drew ?_) | (with_reducible refine ex_alloc ?_ _)))).mono ?_); rintro e w' ⟨rfl, X9, rfl⟩) | (go_at_call 49; (with_reducible refine (HHi.out _ (by (try show Ex _ _); repeat (first | (with_reducible exact ex_refl _) | (with_reducible assumption) | (with_reducible refine ex_drewL ?_) | (with_reducible refine ex_appR ?_ _) | (with_reducible refine ex_wx ?_ _) | (with_reducible refine ex_drew ?_) | (with_reducible refine ex_alloc ?_ _)))).mono ?_); rintro e w' ⟨rfl, X10, rfl⟩)); refine mixQ_mk (by (try show Ex _ _); repeat (first | (with_reducible exact ex_refl _) | (with_reducible assumption) | (with_reducible refine ex_drewL ?_) | (with_reducible refine ex_appR ?_ _) | (with_reducible refine ex_wx ?_ _) | (with_reducible refine ex_drew ?_) | (with_reducible refine ex_alloc ?_ _))) ?_))
              refine wpSeq_nil ?_
              go_wp2
              go_ret
              exact post_mk rfl (ex_trans hwB.out (by (try show Ex _ _); repeat (first | (with_reducible exact ex_refl _) | (with_reducible assumption) | (with_reducible refine ex_drewL ?_) | (with_reducible refine ex_appR ?_ _) | (with_reducible refine ex_wx ?_ _) | (with_reducible refine ex_drew ?_) | (with_reducible refine ex_alloc ?_ _))))
          · have t1 : decide (j < 0) = true := decide_eq_true (by omega)
            go_wp2_with (go_at_call 48; (with_reducible refine (HRt.out _ (by (try show Ex _ _); repeat (first | (with_reducible exact ex_refl _) | (with_reducible assumption) | (with_reducible refine ex_drewL ?_) | (with_reducible refine ex_appR ?_ _) | (with_reducible refine ex_wx ?_ _) | (with_reducible refine ex_drew ?_) | (with_reducible refine ex_alloc ?_ _)))).mono ?_); rintro e w' ⟨rfl, X7, rfl⟩)
            refine wp_region_seq [(0, true), (1, true), (2, true), (3, true), (4, true), (6, true), (7, true), (8, true), (9, true), (10, true), (11, true), (12, true), (14, true), (15, true), (5, false), (13, false), (16, false), (17, true), (18, true)] (by kernel_rfl) (by kernel_rfl) (fun _ _ d _ _ h => by cases d <;> exact h) ?_
            simp only [List.map_cons, List.map_nil, nth]
            repeat (first | ((with_reducible refine wpSeq_look ?_); go_big_quiet_step (fail); (with_reducible refine wpQuiet_nil ?_)) | ((with_reducible refine wpSeq_effF ?_ ?_); (focus rfl); go_simp) | ((with_reducible refine wpSeq_eff ?_ ?_); (focus rfl); (try dsimp only); go_wp2_with (first | (go_at_call 33; (with_reducible refine (HI6.out _ (by (try show Ex _ _); repeat (first | (with_reducible exact ex_refl _) | (with_reducible assumption) | (with_reducible refine ex_drewL ?_) | (with_reducible refine ex_appR ?_ _) | (with_reducible refine ex_wx ?_ _) | (with_reducible refine ex_drew ?_) | (with_reducible refine ex_alloc ?_ _)))).mono ?_); rintro e w' ⟨rfl, X8, rfl⟩) | (go_at_call 47; (with_reducible refine (HLc.out _ (by (try show Ex _ _); repeat (first | (with_reducible exact ex_refl _) | (with_reducible assumption) | (with_reducible refine ex_drewL ?_) | (with_reducible refine ex_appR ?_ _) | (with_reducible refine ex_wx ?_ _) | (with_reducible refine ex_drew ?_) | (with_reducible refine ex_alloc ?_ _)))).mono ?_); rintro e w' ⟨rfl, X9, rfl⟩) | (go_at_call 49; (with_reducible refine (HHi.out _ (by (try show Ex _ _); repeat (first | (with_reducible exact ex_refl _) | (with_reducible assumption) | (with_reducible refine ex_drewL ?_) | (with_reducible refine ex_appR ?_ _) | (with_reducible refine ex_wx ?_ _) | (with_reducible refine ex_drew ?_) | (with_reducible refine ex_alloc ?_ _)))).mono ?_); rintro e w' ⟨rfl, X10, rfl⟩)); refine mixQ_mk (by (try show Ex _ _); repeat (first | (with_reducible exact ex_refl _) | (with_reducible assumption) | (with_reducible refine ex_drewL ?_) | (with_reducible refine ex_appR ?_ _) | (with_reducible refine ex_wx ?_ _) | (with_reducible refine ex_drew ?_) | (with_reducible refine ex_alloc ?_ _))) ?_))
            refine wpSeq_nil ?_
            go_wp2
            go_ret
            exact post_mk rfl (ex_trans hwB.out (by (try show Ex _ _); repeat (first | (with_reducible exact ex_refl _) | (with_reducible assumption) | (with_reducible refine ex_drewL ?_) | (with_reducible refine ex_appR ?_ _) | (with_reducible refine ex_wx ?_ _) | (with_reducible refine ex_drew ?_) | (with_reducible refine ex_alloc ?_ _))))
    | false =>
      go_wp2_with (first | (go_at_call 33; (with_reducible refine (HIn1.out _ (by (try show Ex _ _); repeat (first | (with_reducible exact ex_refl _) | (with_reducible assumption) | (with_reducible refine ex_drewL ?_) | (with_reducible refine ex_appR ?_ _) | (with_reducible refine ex_wx ?_ _) | (with_reducible refine ex_drew ?_) | (with_reducible refine ex_alloc ?_ _)))).mono ?_); rintro e w' ⟨rfl, X4, rfl⟩) | (go_at_call 31; (with_reducible refine (HI.out _ (by (try show Ex _ _); repeat (first | (with_reducible exact ex_refl _) | (with_reducible assumption) | (with_reducible refine ex_drewL ?_) | (with_reducible refine ex_appR ?_ _) | (with_reducible refine ex_wx ?_ _) | (with_reducible refine ex_drew ?_) | (with_reducible refine ex_alloc ?_ _)))).mono ?_); rintro e w' ⟨sa, sb, rfl, ⟨X5, rfl⟩, hcs⟩; (try simp only [wx_wx, wx_drew] at hcs); obtain ⟨s1, s2⟩ := hcs.one; replace hcs := Lib.hid hcs))
      refine wp_region_seq [(0, true), (1, true), (2, true), (3, true), (4, true), (5, true), (6, true), (7, true), (8, true), (9, true), (10, true), (11, true), (12, true), (13, false), (14, true), (15, true)] (by kernel_rfl) (by kernel_rfl) (fun _ _ d _ _ h => by cases d <;> exact h) ?_
      simp only [List.map_cons, List.map_nil, nth]
      repeat (first | ((with_reducible refine wpSeq_look ?_); go_big_quiet_step (fail); (with_reducible refine wpQuiet_nil ?_)) | ((with_reducible refine wpSeq_effF ?_ ?_); (focus rfl); go_simp) | ((with_reducible refine wpSeq_eff ?_ ?_); (focus rfl); (try dsimp only); go_wp2_with (fail); refine mixQ_mk (by (try show Ex _ _); repeat (first | (with_reducible exact ex_refl _) | (with_reducible assumption) | (with_reducible refine ex_drewL ?_) | (with_reducible refine ex_appR ?_ _) | (with_reducible refine ex_wx ?_ _) | (with_reducible refine ex_drew ?_) | (with_reducible refine ex_alloc ?_ _))) ?_))
      refine wpSeq_nil ?_
      go_wp2
      go_loopw [9, 64] (fun v i W' => ∃ k : Nat, k ≤ N ∧ i = I k ∧ Hid (OwnD W' B.heap.size v ((lv.take k).map leafD)) ∧ Ex B W') (fun _ i _ => N - (intOf i).toNat)
      case atStart => exact ⟨0, by omega, rfl, Lib.hid (ownd_nil _ _), (by (try show Ex _ _); repeat (first | (with_reducible exact ex_refl _) | (with_reducible assumption) | (with_reducible refine ex_drewL ?_) | (with_reducible refine ex_appR ?_ _) | (with_reducible refine ex_wx ?_ _) | (with_reducible refine ex_drew ?_) | (with_reducible refine ex_alloc ?_ _)))⟩
      case round =>
        obtain ⟨k, hk, rfl, HO, ⟨X6, rfl⟩⟩ := hrel
        by_cases hlt : k < N
        · obtain ⟨g, off, hla, hg, hcell⟩ := HL.out.pos (by rw [HN.out]; omega)
          cases hla
          obtain ⟨b2, hb2⟩ : ∃ b2, lv[k]? = some b2 := ⟨_, List.getElem?_eq_getElem (by rw [HN.out]; omega)⟩
          obtain ⟨bv2, hc1, hb1⟩ := hcell k b2 hb2
          have HLf : Hid (∀ w', Ex B w' → Calls Tryd.prog 47 #[bv2] w' (Post w' (.agg (rowB 32 (dF (leafD b2)))))) := Lib.hid fun w' k => leafT_any (by have := hsh.out b2 (List.mem_of_getElem? hb2); omega) w' (hb1.ex k) (G.ex (ex_trans hwB.out k))
          have HT : Hid ((lv.take (k + 1)).map leafD = (lv.take k).map leafD ++ [leafD b2]) := Lib.hid (by
            obtain ⟨h1, h2⟩ := List.getElem?_eq_some_iff.1 hb2
            rw [List.take_succ_eq_append_getElem h1, List.map_append, h2]; rfl)
          have hlk : ((lv.take k).map leafD).length ≤ 16 := by rw [List.length_map, List.length_take]; omega
          obtain ⟨va, vc, rfl, _⟩ := hb1.out
          generalize leafD b2 = z at HLf HT
          clear hcell hb1 hb2
          go_wp2_with (first | (go_at_call 47; (with_reducible refine (HLf.out _ (by (try show Ex _ _); repeat (first | (with_reducible exact ex_refl _) | (with_reducible assumption) | (with_reducible refine ex_drewL ?_) | (with_reducible refine ex_appR ?_ _) | (with_reducible refine ex_wx ?_ _) | (with_reducible refine ex_drew ?_) | (with_reducible refine ex_alloc ?_ _)))).mono ?_); rintro e w' ⟨rfl, X7, rfl⟩) | (at_builtin; refine wpAppD (r := [z]) _ _ rfl rfl (HO.out.ex (by (try show Ex _ _); repeat (first | (with_reducible exact ex_refl _) | (with_reducible assumption) | (with_reducible refine ex_drewL ?_) | (with_reducible refine ex_appR ?_ _) | (with_reducible refine ex_wx ?_ _) | (with_reducible refine ex_drew ?_) | (with_reducible refine ex_alloc ?_ _)))) rfl rfl rfl (sld_one z (by (try show Ex _ _); repeat (first | (with_reducible exact ex_refl _) | (with_reducible assumption) | (with_reducible refine ex_drewL ?_) | (with_reducible refine ex_appR ?_ _) | (with_reducible refine ex_wx ?_ _) | (with_reducible refine ex_drew ?_) | (with_reducible refine ex_alloc ?_ _))) (by simp [go_sem])) (by simp only [List.length_singleton]; omega) (by simp [go_sem] <;> omega) (fun v1 w1 hown1 hbe => ?_); obtain ⟨X8, rfl⟩ := exOf (A := B) (by (try show Ex _ _); repeat (first | (with_reducible exact ex_refl _) | (with_reducible assumption) | (with_reducible refine ex_drewL ?_) | (with_reducible refine ex_appR ?_ _) | (with_reducible refine ex_wx ?_ _) | (with_reducible refine ex_drew ?_) | (with_reducible refine ex_alloc ?_ _))) hbe; rw [← HT.out] at hown1; replace hown1 := Lib.hid hown1))
          exact ⟨⟨k + 1, by omega, by go_num, hown1, (by (try show Ex _ _); repeat (first | (with_reducible exact ex_refl _) | (with_reducible assumption) | (with_reducible refine ex_drewL ?_) | (with_reducible refine ex_appR ?_ _) | (with_reducible refine ex_wx ?_ _) | (with_reducible refine ex_drew ?_) | (with_reducible refine ex_alloc ?_ _)))⟩, by simp [intOf]; omega⟩
        · obtain rfl : k = N := by omega
          have HO2 := HO.out
          rw [List.take_of_length_le (Nat.le_of_eq HN.out)] at HO2
          have hlm : (lv.map leafD).length = k := by rw [List.length_map, HN.out]
          obtain ⟨ia, ic, hiv, hi1, hi2, hi3, hi4⟩ := HO2.slg
          subst hiv
          have HI4 := Lib.hid hi4
          rw [hlm] at hi1 ⊢
          have HRt : Hid (∀ w', Ex (wx B X6) w' → Calls Tryd.prog 48 #[.slice ia k ic] w' (Post w' (.tuple #[.agg (rowB 32 (dF (rootD (lv.map leafD)))), I 0]))) := Lib.hid fun w' h => by
            have := Root_any (lv.map leafD) ia ic w' (by omega) (by omega) hi2 (HI4.out.ex h) (G.ex (ex_trans hwB.out (ex_trans ⟨X6, rfl⟩ h)))
            rwa [hlm] at this
          have HLc : Hid (∀ w', Ex B w' → Calls Tryd.prog 47 #[.slice a1 b9.length c1] w' (Post w' (.agg (rowB 32 (dF (leafD b9)))))) := Lib.hid fun w' k => leafT_any (by omega) w' (HCm.out.1.slt.ex k) (G.ex (ex_trans hwB.out k))
          have HHi : Hid (∀ w', Ex B w' → Calls Tryd.prog 49 #[.agg (rowB 32 (dF (rootD (lv.map leafD)))), I k, I j, .agg (rowB 32 (dF (leafD b9))), .slice a3 p9.length c3] w' (Post w' (.bool (decide (ClimbD k j (leafD b9) p9 = some (rootD (lv.map leafD))))))) := Lib.hid fun w' h => by
            obtain ⟨_, Z, h2⟩ := HCm.out
            obtain ⟨_, _, hv, h3, h4, _, h5⟩ := h2.slg
            cases hv
            exact includes_any G _ k j _ p9 a3 c3 w' (ex_trans hwB.out h) h3 h4 (h5.ex h)
          have HPt : Hid (∀ jn : Nat, j = jn → jn < k → ∀ w', Ex (wx B X6) w' → Calls Tryd.prog 50 #[.slice ia k ic, I jn] w' (PostO2 w' (pathD (lv.map leafD) jn))) := Lib.hid fun jn _ hjn w' h => by
            have := path_in (lv.map leafD) ia ic jn w' (by omega) (by omega) hi2 (HI4.out.ex h) (G.ex (ex_trans hwB.out (ex_trans ⟨X6, rfl⟩ h))) (by omega)
            rwa [hlm] at this
          have HPi := Lib.hid fun (jn : Nat) (b : List UInt8) (h : lv[jn]? = some b) => incl_path (l := lv) (by have := HN.out; omega) h
          generalize decide (ClimbD k j (leafD b9) p9 = some (rootD (lv.map leafD))) = zz at HHi HI6
          generalize leafD b9 = y9 at HLc HHi
          generalize rootD (lv.map leafD) = R at HRt HHi
          generalize lv.map leafD = ids at *
          clear hlt hk HO HO2 hi4 hlm
          by_cases hj0 : 0 ≤ j
          · by_cases hj1 : j < k
            · obtain ⟨jn, rfl⟩ : ∃ jn : Nat, j = jn := ⟨j.toNat, by omega⟩
              have t1 : decide ((jn : Int) < 0) = false := decide_eq_false (by omega)
              have t2 : decide ((k : Int) ≤ jn) = false := decide_eq_false (by omega)
              have t3 : decide (k ≤ jn) = false := decide_eq_false (by omega)
              obtain ⟨g, off, hla, hg, hcell⟩ := HL.out.pos (by rw [HN.out]; omega)
              cases hla
              obtain ⟨b3, hb3⟩ : ∃ b3, lv[jn]? = some b3 := ⟨_, List.getElem?_eq_getElem (by rw [HN.out]; omega)⟩
              obtain ⟨bv3, hc3, hb4⟩ := hcell jn b3 hb3
              have hb5 := hsh.out b3 (List.mem_of_getElem? hb3)
              have HPi3 := HPi.out jn b3 hb3
              have HPt3 := Lib.hid (HPt.out jn rfl (by omega))
              obtain ⟨pth, hpth⟩ : ∃ pth, pathD ids jn = pth := ⟨_, rfl⟩
              rw [hpth] at HPi3 HPt3
              have hbo3 : bv3.oneCell' = true := by obtain ⟨_, _, rfl, _⟩ := hb4.out; rfl
              have HI7 : Hid (∀ w' pa3 pc3, Ex B w' → pth.length ≤ pc3 → pc3 ≤ maxLen → SlD w' pa3 pth → Calls Tryd.prog 33 #[I 256, .slice (some ⟨g, off, none⟩) k lc, .agg #[I jn, bv3, .slice pa3 pth.length pc3]] w' (Post w' (.bool true))) := Lib.hid fun w' pa3 pc3 h h3 h4 h5 => by
                have := includes_bc (w := w') 256 (.slice (some ⟨g, off, none⟩) lv.length lc) (.agg #[I jn, bv3, .slice pa3 pth.length pc3]) _ ⟨_, _, _, rfl, hbo3, rfl⟩ fun w2 k2 => included_any G 256 hb5 (bv := bv3) lv (some ⟨g, off, none⟩) lc jn pth pa3 pc3 w2 (by have := HN.out; omega) hl2 (fun _ => ⟨HL.out.ex (ex_trans h k2), hsh.out⟩) hbo3 (fun _ => hb4.ex (ex_trans h k2)) h3 h4 (h5.ex k2) (ex_trans hwB.out (ex_trans h k2))
                rwa [HN.out, HPi3] at this
              obtain ⟨va, vc, rfl, _⟩ := hb4.out
              have hj2 : (jn : Int) < k := by omega
              have hj3 : (0 : Int) ≤ jn := by omega
              have hj4 : jn < k := by omega
              clear hcell hb3 HPt HPi hpth HPi3 hb5
              go_wp2_with (go_at_call 48; (with_reducible refine (HRt.out _ (by (try show Ex _ _); repeat (first | (with_reducible exact ex_refl _) | (with_reducible assumption) | (with_reducible refine ex_drewL ?_) | (with_reducible refine ex_appR ?_ _) | (with_reducible refine ex_wx ?_ _) | (with_reducible refine ex_drew ?_) | (with_reducible refine ex_alloc ?_ _)))).mono ?_); rintro e w' ⟨rfl, X7, rfl⟩)
              refine wp_region_seq [(0, true), (1, true), (2, true), (3, true), (4, true), (6, true), (7, true), (8, true), (9, true), (10, true), (11, true), (12, true), (14, true), (15, true), (5, false), (13, false), (16, false), (17, true), (18, true)] (by kernel_rfl) (by kernel_rfl) (fun _ _ d _ _ h => by cases d <;> exact h) ?_
              simp only [List.map_cons, List.map_nil, nth]
              repeat (first | ((with_reducible refine wpSeq_look ?_); go_big_quiet_step (fail); (with_reducible refine wpQuiet_nil ?_)) | ((with_reducible refine wpSeq_effF ?_ ?_); (focus rfl); go_simp) | ((with_reducible refine wpSeq_eff ?_ ?_); (focus rfl); (try dsimp only); go_wp2_with (first | (go_at_call 33; (with_reducible refine (HI6.out _ (by (try show Ex _ _); repeat (first | (with_reducible exact ex_refl _) | (with_reducible assumption) | (with_reducible refine ex_drewL ?_) | (with_reducible refine ex_appR ?_ _) | (with_reducible refine ex_wx ?_ _) | (with_reducible refine ex_drew ?_) | (with_reducible refine ex_alloc ?_ _)))).mono ?_); rintro e w' ⟨rfl, X8, rfl⟩) | (go_at_call 47; (with_reducible refine (HLc.out _ (by (try show Ex _ _); repeat (first | (with_reducible exact ex_refl _) | (with_reducible assumption) | (with_reducible refine ex_drewL ?_) | (with_reducible refine ex_appR ?_ _) | (with_reducible refine ex_wx ?_ _) | (with_reducible refine ex_drew ?_) | (with_reducible refine ex_alloc ?_ _)))).mono ?_); rintro e w' ⟨rfl, X9, rfl⟩) | (go_at_call 49; (with_reducible refine (HHi.out _ (by (try show Ex _ _); repeat (first | (with_reducible exact ex_refl _) | (with_reducible assumption) | (with_reducible refine ex_drewL ?_) | (with_reducible refine ex_appR ?_ _) | (with_reducible refine ex_wx ?_ _) | (with_reducible refine ex_drew ?_) | (with_reducible refine ex_alloc ?_ _)))).mono ?_); rintro e w' ⟨rfl, X10, rfl⟩)); refine mixQ_mk (by (try show Ex _ _); repeat (first | (with_reducible exact ex_refl _) | (with_reducible assumption) | (with_reducible refine ex_drewL ?_) | (with_reducible refine ex_appR ?_ _) | (with_reducible refine ex_wx ?_ _) | (with_reducible refine ex_drew ?_) | (with_reducible refine ex_alloc ?_ _))) ?_))
              refine wpSeq_nil ?_
              go_wp2_with (go_at_call 50; (with_reducible refine (HPt3.out _ (by (try show Ex _ _); repeat (first | (with_reducible exact ex_refl _) | (with_reducible assumption) | (with_reducible refine ex_drewL ?_) | (with_reducible refine ex_appR ?_ _) | (with_reducible refine ex_wx ?_ _) | (with_reducible refine ex_drew ?_) | (with_reducible refine ex_alloc ?_ _)))).mono ?_); rintro e w' ⟨pv, rfl, h13, X13, rfl⟩; (try simp only [wx_wx, wx_drew] at h13); obtain ⟨pa3, pc3, rfl, f1, f2, _, f4⟩ := h13.slg; clear h13; replace f4 := Lib.hid f4)
              refine wp_region_seq [(0, true), (1, true), (2, true), (3, true), (4, true), (5, true), (6, true), (7, true), (8, true), (9, true), (10, true), (11, true), (12, true), (13, false), (14, true), (15, true)] (by kernel_rfl) (by kernel_rfl) (fun _ _ d _ _ h => by cases d <;> exact h) ?_
              simp only [List.map_cons, List.map_nil, nth]
              repeat (first | ((with_reducible refine wpSeq_look ?_); go_big_quiet_step (fail); (with_reducible refine wpQuiet_nil ?_)) | ((with_reducible refine wpSeq_effF ?_ ?_); (focus rfl); go_simp) | ((with_reducible refine wpSeq_eff ?_ ?_); (focus rfl); (try dsimp only); go_wp2_with ((go_at_call 33; (with_reducible refine (HI7.out _ _ _ (by (try show Ex _ _); repeat (first | (with_reducible exact ex_refl _) | (with_reducible assumption) | (with_reducible refine ex_drewL ?_) | (with_reducible refine ex_appR ?_ _) | (with_reducible refine ex_wx ?_ _) | (with_reducible refine ex_drew ?_) | (with_reducible refine ex_alloc ?_ _))) f1 f2 (f4.out.ex (by (try show Ex _ _); repeat (first | (with_reducible exact ex_refl _) | (with_reducible assumption) | (with_reducible refine ex_drewL ?_) | (with_reducible refine ex_appR ?_ _) | (with_reducible refine ex_wx ?_ _) | (with_reducible refine ex_drew ?_) | (with_reducible refine ex_alloc ?_ _))))).mono ?_); rintro e w' ⟨rfl, X14, rfl⟩)); refine mixQ_mk (by (try show Ex _ _); repeat (first | (with_reducible exact ex_refl _) | (with_reducible assumption) | (with_reducible refine ex_drewL ?_) | (with_reducible refine ex_appR ?_ _) | (with_reducible refine ex_wx ?_ _) | (with_reducible refine ex_drew ?_) | (with_reducible refine ex_alloc ?_ _))) ?_))
              refine wpSeq_nil ?_
              go_wp2
              go_ret
              exact post_mk rfl (ex_trans hwB.out (by (try show Ex _ _); repeat (first | (with_reducible exact ex_refl _) | (with_reducible assumption) | (with_reducible refine ex_drewL ?_) | (with_reducible refine ex_appR ?_ _) | (with_reducible refine ex_wx ?_ _) | (with_reducible refine ex_drew ?_) | (with_reducible refine ex_alloc ?_ _))))
            · have t1 : decide (j < 0) = false := decide_eq_false (by omega)
              have t2 : decide ((k : Int) ≤ j) = true := decide_eq_true (by omega)
              go_wp2_with (go_at_call 48; (with_reducible refine (HRt.out _ (by (try show Ex _ _); repeat (first | (with_reducible exact ex_refl _) | (with_reducible assumption) | (with_reducible refine ex_drewL ?_) | (with_reducible refine ex_appR ?_ _) | (with_reducible refine ex_wx ?_ _) | (with_reducible refine ex_drew ?_) | (with_reducible refine ex_alloc ?_ _)))).mono ?_); rintro e w' ⟨rfl, X7, rfl⟩)
              refine wp_region_seq [(0, true), (1, true), (2, true), (3, true), (4, true), (6, true), (7, true), (8, true), (9, true), (10, true), (11, true), (12, true), (14, true), (15, true), (5, false), (13, false), (16, false), (17, true), (18, true)] (by kernel_rfl) (by kernel_rfl) (fun _ _ d _ _ h => by cases d <;> exact h) ?_
              simp only [List.map_cons, List.map_nil, nth]
              repeat (first | ((with_reducible refine wpSeq_look ?_); go_big_quiet_step (fail); (with_reducible refine wpQuiet_nil ?_)) | ((with_reducible refine wpSeq_effF ?_ ?_); (focus rfl); go_simp) | ((with_reducible refine wpSeq_eff ?_ ?_); (focus rfl); (try dsimp only); go_wp2_with (first | (go_at_call 33; (with_reducible refine (HI6.out _ (by (try show Ex _ _); repeat (first | (with_reducible exact ex_refl _) | (with_reducible assumption) | (with_reducible refine ex_drewL ?_) | (with_reducible refine ex_appR ?_ _) | (with_reducible refine ex_wx ?_ _) | (with_reducible refine ex_drew ?_) | (with_reducible refine ex_alloc ?_ _)))).mono ?_); rintro e w' ⟨rfl, X8, rfl⟩) | (go_at_call 47; (with_reducible refine (HLc.out _ (by (try show Ex _ _); repeat (first | (with_reducible exact ex_refl _) | (with_reducible assumption) | (with_reducible refine ex_drewL ?_) | (with_reducible refine ex_appR ?_ _) | (with_reducible refine ex_wx ?_ _) | (with_reducible refine ex_drew ?_) | (with_reducible refine ex_alloc ?_ _)))).mono ?_); rintro e w' ⟨rfl, X9, rfl⟩) | (go_at_call 49; (with_reducible refine (HHi.out _ (by (try show Ex _ _); repeat (first | (with_reducible exact ex_refl _) | (with_reducible assumption) | (with_reducible refine ex_drewL ?_) | (with_reducible refine ex_appR ?_ _) | (with_reducible refine ex_wx ?_ _) | (with_reducible refine ex_drew ?_) | (with_reducible refine ex_alloc ?_ _)))).mono ?_); rintro e w' ⟨rfl, X10, rfl⟩)); refine mixQ_mk (by (try show Ex _ _); repeat (first | (with_reducible exact ex_refl _) | (with_reducible assumption) | (with_reducible refine ex_drewL ?_) | (with_reducible refine ex_appR ?_ _) | (with_reducible refine ex_wx ?_ _) | (with_reducible refine ex_drew ?_) | (with_reducible refine ex_alloc ?_ _))) ?_))
              refine wpSeq_nil ?_
              go_wp2
              go_ret
              exact post_mk rfl (ex_trans hwB.out (by (try show Ex _ _); repeat (first | (with_reducible exact ex_refl _) | (with_reducible assumption) | (with_reducible refine ex_drewL ?_) | (with_reducible refine ex_appR ?_ _) | (with_reducible refine ex_wx ?_ _) | (with_reducible refine ex_drew ?_) | (with_reducible refine ex_alloc ?_ _))))
          · have t1 : decide (j < 0) = true := decide_eq_true (by omega)
            go_wp2_with (go_at_call 48; (with_reducible refine (HRt.out _ (by (try show Ex _ _); repeat (first | (with_reducible exact ex_refl _) | (with_reducible assumption) | (with_reducible refine ex_drewL ?_) | (with_reducible refine ex_appR ?_ _) | (with_reducible refine ex_wx ?_ _) | (with_reducible refine ex_drew ?_) | (with_reducible refine ex_alloc ?_ _)))).mono ?_); rintro e w' ⟨rfl, X7, rfl⟩)
            refine wp_region_seq [(0, true), (1, true), (2, true), (3, true), (4, true), (6, true), (7, true), (8, true), (9, true), (10, true), (11, true), (12, true), (14, true), (15, true), (5, false), (13, false), (16, false), (17, true), (18, true)] (by kernel_rfl) (by kernel_rfl) (fun _ _ d _ _ h => by cases d <;> exact h) ?_
            simp only [List.map_cons, List.map_nil, nth]
            repeat (first | ((with_reducible refine wpSeq_look ?_); go_big_quiet_step (fail); (with_reducible refine wpQuiet_nil ?_)) | ((with_reducible refine wpSeq_effF ?_ ?_); (focus rfl); go_simp) | ((with_reducible refine wpSeq_eff ?_ ?_); (focus rfl); (try dsimp only); go_wp2_with (first | (go_at_call 33; (with_reducible refine (HI6.out _ (by (try show Ex _ _); repeat (first | (with_reducible exact ex_refl _) | (with_reducible assumption) | (with_reducible refine ex_drewL ?_) | (with_reducible refine ex_appR ?_ _) | (with_reducible refine ex_wx ?_ _) | (with_reducible refine ex_drew ?_) | (with_reducible refine ex_alloc ?_ _)))).mono ?_); rintro e w' ⟨rfl, X8, rfl⟩) | (go_at_call 47; (with_reducible refine (HLc.out _ (by (try show Ex _ _); repeat (first | (with_reducible exact ex_refl _) | (with_reducible assumption) | (with_reducible refine ex_drewL ?_) | (with_reducible refine ex_appR ?_ _) | (with_reducible refine ex_wx ?_ _) | (with_reducible refine ex_drew ?_) | (with_reducible refine ex_alloc ?_ _)))).mono ?_); rintro e w' ⟨rfl, X9, rfl⟩) | (go_at_call 49; (with_reducible refine (HHi.out _ (by (try show Ex _ _); repeat (first | (with_reducible exact ex_refl _) | (with_reducible assumption) | (with_reducible refine ex_drewL ?_) | (with_reducible refine ex_appR ?_ _) | (with_reducible refine ex_wx ?_ _) | (with_reducible refine ex_drew ?_) | (with_reducible refine ex_alloc ?_ _)))).mono ?_); rintro e w' ⟨rfl, X10, rfl⟩)); refine mixQ_mk (by (try show Ex _ _); repeat (first | (with_reducible exact ex_refl _) | (with_reducible assumption) | (with_reducible refine ex_drewL ?_) | (with_reducible refine ex_appR ?_ _) | (with_reducible refine ex_wx ?_ _) | (with_reducible refine ex_drew ?_) | (with_reducible refine ex_alloc ?_ _))) ?_))
            refine wpSeq_nil ?_
            go_wp2
            go_ret
            exact post_mk rfl (ex_trans hwB.out (by (try show Ex _ _); repeat (first | (with_reducible exact ex_refl _) | (with_reducible assumption) | (with_reducible refine ex_drewL ?_) | (with_reducible refine ex_appR ?_ _) | (with_reducible refine ex_wx ?_ _) | (with_reducible refine ex_drew ?_) | (with_reducible refine ex_alloc ?_ _))))
end Go.Proofs.YtcdocklbpfdmeaaDoor

/- CollideLeaf: how one claim opens. -/
set_option linter.unusedSimpArgs false
set_option linter.unusedVariables false
set_option linter.unnecessarySimpa false
set_option maxRecDepth 20000
namespace Go.Proofs.YtcdocklbpfdmeaaDoor
open Go.RowKit Go.ChangeShapes Go.WideShapes Go.ChangeAt
section
variable {H : Type} {enc : TypeId × Value → H} {w : World} {base : Nat} {sp : Nat → Bool} {held : Bool}
theorem argClaim {b0 : Nat} {r : Reach} {v : Value} {d : DataW H} {p : List MemPlace} (h : Value.okWide Tryd.prog w r b0 67 v) (hd : DataW.Trod enc Tryd.prog w base sp held 67 v d p) :
    ∃ (j : Int) (bv : Value) (b : List UInt8) (pa : Option Addr) (path : List Dg) (pc : Nat), v = .agg #[I j, bv, .slice pa path.length pc] ∧ SlT w bv b ∧ path.length ≤ pc ∧ pc ≤ maxLen ∧ (pa = none → pc = 0) ∧ SlD w pa path := by
  obtain ⟨cs, rfl, _⟩ := okWide_struct Tryd.underlying67 h
  obtain ⟨fuel, hf⟩ := hd
  obtain ⟨j, bv, b, pa, path, pc, h1, h2⟩ := claim_of_trod hf
  exact ⟨j, bv, b, pa, path, pc, by rw [show cs = #[I j, bv, .slice pa path.length pc] from by simpa [Value.cells] using congrArg List.toArray h1], h2⟩
end
end Go.Proofs.YtcdocklbpfdmeaaDoor
