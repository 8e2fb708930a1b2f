/- HistoryDigests: what it does. -/
import Derived.Test.YtbobamifpjlmiaaDoorShort
import Derived.Test.YtbobamifpjlmiaaDoorOpen
set_option linter.unusedSimpArgs false
set_option linter.unusedVariables false
set_option maxRecDepth 20000
namespace Go.Proofs.YtbobamifpjlmiaaDoor
open Go.RowKit
theorem gF_map (f : Nat → UInt8) (n i : Nat) (h : i < n) : gF ((List.range n).map f) i = f i := by
  unfold gF; rw [List.getD_eq_getElem?_getD, List.getElem?_map, List.getElem?_range h]; rfl
theorem sll_of_slb {w : World} {a : Option Addr} {n : Nat} {f : Nat → UInt8} (h : SlB w a n f) : SlL w a ((List.range n).map f) := by
  unfold SlL
  have hl : ((List.range n).map f).length = n := by simp
  rw [hl]
  exact h.congr fun i hi => (gF_map f n i hi).symm
theorem slb_take {w : World} {a : Option Addr} {n m : Nat} {f : Nat → UInt8} (h : SlB w a n f) (hm : m ≤ n) : SlB w a m f := by
  rcases h.out with h0 | ⟨g, off, h1, h2, h3⟩
  · exact ⟨Or.inl (by omega)⟩
  · exact ⟨Or.inr ⟨g, off, h1, h2, fun j hj => h3 j (by omega)⟩⟩
set_option maxHeartbeats 1000000 in
theorem leaf_nil (w : World) (G : Glob w) :
    Calls Tryd.prog 26 #[.slice none 0 0] w (Post w (.agg (rowB 32 (dF (leafD []))))) := by
  go_enter Tryd.func26, Tryd.ntmps26
  go_wp2_with (go_at_call 66; refine (sum_slt G (by (try show Ex _ _); repeat (first | (with_reducible exact ex_refl _) | (with_reducible assumption) | (with_reducible refine ex_drewL ?_) | (with_reducible refine ex_appR ?_ _) | (with_reducible refine ex_wx ?_ _) | (with_reducible refine ex_drew ?_) | (with_reducible refine ex_alloc ?_ _))) (sls_one 0 (by (try show Ex _ _); repeat (first | (with_reducible exact ex_refl _) | (with_reducible assumption) | (with_reducible refine ex_drewL ?_) | (with_reducible refine ex_appR ?_ _) | (with_reducible refine ex_wx ?_ _) | (with_reducible refine ex_drew ?_) | (with_reducible refine ex_alloc ?_ _))) (by simp [go_sem]) (by rfl)).slt (by decide)).mono ?_; rintro e w2 ⟨rfl, X, rfl⟩)
  exact ret_row (cs := rowB 32 (dF (leafD []))) Tryd.results26 Tryd.underlying26 rfl info_id rfl (by simp [go_sem]; unfold leafD; simp) rfl (post_mk rfl (by (try show Ex _ _); repeat (first | (with_reducible exact ex_refl _) | (with_reducible assumption) | (with_reducible refine ex_drewL ?_) | (with_reducible refine ex_appR ?_ _) | (with_reducible refine ex_wx ?_ _) | (with_reducible refine ex_drew ?_) | (with_reducible refine ex_alloc ?_ _))))
set_option maxHeartbeats 1000000 in
theorem refleaf_nil (w : World) :
    Calls Tryd.prog 27 #[.slice none 0 0] w (Post w (.agg (rowB 32 (dF (leafD []))))) := by
  go_enter Tryd.func27, Tryd.ntmps27
  go_wp2_with (go_at_call 53; refine (refsum_slt (sls_one 0 (by (try show Ex _ _); repeat (first | (with_reducible exact ex_refl _) | (with_reducible assumption) | (with_reducible refine ex_drewL ?_) | (with_reducible refine ex_appR ?_ _) | (with_reducible refine ex_wx ?_ _) | (with_reducible refine ex_drew ?_) | (with_reducible refine ex_alloc ?_ _))) (by simp [go_sem]) (by rfl)).slt (by decide)).mono ?_; rintro e w2 ⟨rfl, X, rfl⟩)
  exact ret_row (cs := rowB 32 (dF (leafD []))) Tryd.results27 Tryd.underlying26 rfl info_id rfl (by simp [go_sem]; unfold leafD; simp) rfl (post_mk rfl (by (try show Ex _ _); repeat (first | (with_reducible exact ex_refl _) | (with_reducible assumption) | (with_reducible refine ex_drewL ?_) | (with_reducible refine ex_appR ?_ _) | (with_reducible refine ex_wx ?_ _) | (with_reducible refine ex_drew ?_) | (with_reducible refine ex_alloc ?_ _))))
theorem leaf_slt {v : Value} {l : List UInt8} (hl : l.length ≤ 100000) (w : World) (hv : SlT w v l) (G : Glob w) :
    Calls Tryd.prog 26 #[v] w (Post w (.agg (rowB 32 (dF (leafD l))))) := by
  obtain ⟨a, c, rfl, h1, h2, h3, h4⟩ := hv.out
  cases a with
  | none =>
    obtain rfl := h3 rfl
    obtain rfl : l = [] := List.eq_nil_of_length_eq_zero (by omega)
    exact leaf_nil w G
  | some ad => exact leaf_any hl w ⟨ad, c, rfl, h1, h2, h4⟩ G
theorem refleaf_slt {v : Value} {l : List UInt8} (hl : l.length ≤ 100000) (w : World) (hv : SlT w v l) :
    Calls Tryd.prog 27 #[v] w (Post w (.agg (rowB 32 (dF (leafD l))))) := by
  obtain ⟨a, c, rfl, h1, h2, h3, h4⟩ := hv.out
  cases a with
  | none =>
    obtain rfl := h3 rfl
    obtain rfl : l = [] := List.eq_nil_of_length_eq_zero (by omega)
    exact refleaf_nil w
  | some ad => exact refleaf_any hl w ⟨ad, c, rfl, h1, h2, h4⟩
@[go_sem] theorem make_id (l c : Int) (w : World) : (Instr.makeSlice 22 (.int .i64 l) (.int .i64 c)).run Tryd.prog w = if 0 ≤ l ∧ l ≤ c ∧ (32 : Int) * c ≤ 281474976710656 then
      .ok (.slice (some ⟨w.heap.size, 0, none⟩) l.toNat c.toNat) (w.alloc (.cells (manyC (.agg (rowB 32 fun _ => 0)) (c.toNat * 32)) 26)) else makeRaw Tryd.prog 22 (.int .i64 l) (.int .i64 c) w := by
  rw [make_rule appId]
  by_cases h : 0 ≤ l ∧ l ≤ c ∧ (32 : Int) * c ≤ 281474976710656
  · rw [if_pos h, if_pos ⟨h.1, h.2.1, by have := h.2.2; simpa using this, by omega⟩]
  · rw [if_neg h, if_neg (fun h2 => h ⟨h2.1, h2.2.1, by have := h2.2.2.1; simpa using this⟩)]
/-- An empty row of bytes, new. -/
theorem ownb_empty {w w' : World} {Z : Nat} {v : Value} (k : Ex (w.alloc (.cells #[] 5)) w') (hv : v = .slice (some ⟨w.heap.size, 0, none⟩) 0 0) (hZ : Z ≤ w.heap.size) : w'.ownsRow Z 5 1 v 0 (Lib.byteCells []) := by
  subst hv
  exact owns_ex (owns_new (n := 0) (cap := 0) rfl hZ (by omega) (by decide) (by simp) (by simp [Lib.byteCells])) k
theorem slt_empty {w w' : World} {v : Value} (k : Ex (w.alloc (.cells #[] 5)) w') (hv : v = .slice (some ⟨w.heap.size, 0, none⟩) 0 0) : SlT w' v [] := owns_slt (ownb_empty (Z := 0) k hv (by omega))
theorem own_sls {w : World} {Z : Nat} {v : Value} {n : Nat} {l : List UInt8} (h : w.ownsRow Z 5 1 v n (Lib.byteCells l)) (hn : 0 < n) : SlS w v l := by
  obtain ⟨g, cap, cur, rfl, h1, h2, h3, h4, h5, h6⟩ := own_block h hn (by omega)
  obtain ⟨a, c, h7, h8, h9, _, h10⟩ := (owns_slt h).out
  cases h7
  exact ⟨_, cap, rfl, h8, h9, h10⟩
set_option maxHeartbeats 1000000 in
theorem digests_any (a : Option Addr) (n c : Nat) (E : Nat → SlE) (x y : Dg) (w : World) (hn : n ≤ c) (hc : c ≤ maxLen) (hs : SlV w a n (fun i => (E i).v)) (hE : ∀ i, i < n → (E i).ok w) (G : Glob w) :
    Calls Tryd.prog 4 #[.slice a n c, .agg (rowB 32 (dF x)), .agg (rowB 32 (dF y))] w (Post w (.bool true)) := by
  unfold maxLen at hc
  have HE : Hid (∀ i, i < n → (E i).ok w) := Lib.hid hE
  have HW : Hid (∀ w', Ex w w' → Calls Tryd.prog 15 #[] w' (Post w' (.bool true))) := Lib.hid fun w' k => wakesH_any w' (G.ex k)
  have HNo := Lib.hid (node_any G x y)
  have HNr := Lib.hid (refnode_any x y)
  have e7 := eqF_same (dF (nodeD x y)) 32
  generalize nodeD x y = z at HNo HNr e7
  have HR : Hid (∀ aa w', Calls Tryd.prog 17 #[.slice aa 1025 1025] w' (Post w' (.tuple #[.agg (rowB 32 fun _ => 0), I 3]))) := Lib.hid fun aa w' => Root_long 1025 aa 1025 w' (by omega) (by omega) (by decide)
  have HP : Hid (∀ aa w', Calls Tryd.prog 18 #[.slice aa 1025 1025, I 0] w' (Post w' (.tuple #[.slice none 0 0, I 3]))) := Lib.hid fun aa w' => path_long 1025 aa 1025 0 w' (by omega) (by omega) (by decide)
  have HQ : Hid (∀ aa w', Calls Tryd.prog 19 #[.slice aa 1025 1025, I 1] w' (Post w' (.tuple #[.slice none 0 0, I 3]))) := Lib.hid fun aa w' => proof_long 1025 aa 1025 1 w' (by omega) (by omega) (by decide)
  clear hE
  go_enter Tryd.func4, Tryd.ntmps4
  go_wp2_with (go_at_call 15; (with_reducible refine (HW.out _ (by (try show Ex _ _); repeat (first | (with_reducible exact ex_refl _) | (with_reducible assumption) | (with_reducible refine ex_drewL ?_) | (with_reducible refine ex_appR ?_ _) | (with_reducible refine ex_wx ?_ _) | (with_reducible refine ex_drew ?_) | (with_reducible refine ex_alloc ?_ _)))).mono ?_); rintro e w2 ⟨rfl, X1, rfl⟩)
  refine wp_region_seq [(0, true), (1, true), (3, true), (4, true), (2, false), (5, false), (6, true)] (by kernel_rfl) (by kernel_rfl) (fun _ _ d _ _ h => by cases d <;> exact h) ?_
  simp only [List.map_cons, List.map_nil, nth]
  repeat (first | (refine wpSeq_look ?_; go_big_quiet_step (fail); refine wpQuiet_nil ?_) | (refine wpSeq_effF (by rfl) ?_; go_simp) | (refine wpSeq_eff (by rfl) ?_; (try dsimp only); go_wp2_with (first | (go_at_call 24; (with_reducible refine (HNo.out _ (by (try show Ex _ _); repeat (first | (with_reducible exact ex_refl _) | (with_reducible assumption) | (with_reducible refine ex_drewL ?_) | (with_reducible refine ex_appR ?_ _) | (with_reducible refine ex_wx ?_ _) | (with_reducible refine ex_drew ?_) | (with_reducible refine ex_alloc ?_ _)))).mono ?_); rintro e w3 ⟨rfl, X2, rfl⟩) | (go_at_call 25; (with_reducible refine (HNr.out _).mono ?_); rintro e w4 ⟨rfl, X3, rfl⟩)); refine mixQ_mk (by (try show Ex _ _); repeat (first | (with_reducible exact ex_refl _) | (with_reducible assumption) | (with_reducible refine ex_drewL ?_) | (with_reducible refine ex_appR ?_ _) | (with_reducible refine ex_wx ?_ _) | (with_reducible refine ex_drew ?_) | (with_reducible refine ex_alloc ?_ _))) ?_))
  refine wpSeq_nil ?_
  go_wp2
  go_loopw [28] (fun i wr => ∃ k : Nat, k ≤ n ∧ i = I k ∧ Ex w wr) (fun i _ => n - (intOf i).toNat)
  case atStart => exact ⟨0, by omega, rfl, (by (try show Ex _ _); repeat (first | (with_reducible exact ex_refl _) | (with_reducible assumption) | (with_reducible refine ex_drewL ?_) | (with_reducible refine ex_appR ?_ _) | (with_reducible refine ex_wx ?_ _) | (with_reducible refine ex_drew ?_) | (with_reducible refine ex_alloc ?_ _)))⟩
  case round =>
    obtain ⟨k, hk, rfl, X0, rfl⟩ := hrel
    by_cases hlt : k < n
    · obtain ⟨g, off, rfl, hg, hcell⟩ := hs.pos (by omega)
      have h1 := hcell k hlt
      have hok := HE.out k hlt
      simp only [SlE.v] at h1
      generalize E k = e at h1 hok
      obtain ⟨ea, en, ec, ef⟩ := e
      obtain ⟨k1, k2, k3, k4⟩ := hok
      simp only at h1 k1 k2 k3 k4
      unfold maxLen at k2
      clear hcell
      by_cases h8 : k = 8
      · have h8' : ((k : Int) == 8) = true := by rw [h8]; rfl
        have H8 := Lib.hid h8
        clear h8
        go_wp2_with (first | (go_at_call 17; (with_reducible refine (HR.out _ _).mono ?_); rintro e w3 ⟨rfl, X2, rfl⟩) | (go_at_call 18; (with_reducible refine (HP.out _ _).mono ?_); rintro e w4 ⟨rfl, X3, rfl⟩) | (go_at_call 19; (with_reducible refine (HQ.out _ _).mono ?_); rintro e w5 ⟨rfl, X4, rfl⟩))
        go_ret
        exact post_mk rfl (by (try show Ex _ _); repeat (first | (with_reducible exact ex_refl _) | (with_reducible assumption) | (with_reducible refine ex_drewL ?_) | (with_reducible refine ex_appR ?_ _) | (with_reducible refine ex_wx ?_ _) | (with_reducible refine ex_drew ?_) | (with_reducible refine ex_alloc ?_ _)))
      · have h8' : ((k : Int) == 8) = false := beq_eq_false_iff_ne.2 (by omega)
        clear h8
        rcases Nat.eq_zero_or_pos en with h0 | hpos
        · subst h0
          have e8 := eqF_same (dF (leafD [])) 32
          generalize hq : leafD [] = lz at e8
          have HQ0 : Hid (leafD [] = lz) := Lib.hid hq
          clear hq k4 k3
          cases ea
          all_goals
            go_wp2_with (first | (go_at_call 26; refine (leaf_slt (l := []) (by decide) _ (slt_empty (by (try show Ex _ _); repeat (first | (with_reducible exact ex_refl _) | (with_reducible assumption) | (with_reducible refine ex_drewL ?_) | (with_reducible refine ex_appR ?_ _) | (with_reducible refine ex_wx ?_ _) | (with_reducible refine ex_drew ?_) | (with_reducible refine ex_alloc ?_ _))) (by simp [go_sem])) (G.ex (by (try show Ex _ _); repeat (first | (with_reducible exact ex_refl _) | (with_reducible assumption) | (with_reducible refine ex_drewL ?_) | (with_reducible refine ex_appR ?_ _) | (with_reducible refine ex_wx ?_ _) | (with_reducible refine ex_drew ?_) | (with_reducible refine ex_alloc ?_ _))))).mono ?_; rintro e w5 ⟨rfl, X5, rfl⟩; rw [HQ0.out]) | (go_at_call 27; refine (refleaf_slt (l := []) (by decide) _ (slt_empty (by (try show Ex _ _); repeat (first | (with_reducible exact ex_refl _) | (with_reducible assumption) | (with_reducible refine ex_drewL ?_) | (with_reducible refine ex_appR ?_ _) | (with_reducible refine ex_wx ?_ _) | (with_reducible refine ex_drew ?_) | (with_reducible refine ex_alloc ?_ _))) (by simp [go_sem]))).mono ?_; rintro e w6 ⟨rfl, X6, rfl⟩; rw [HQ0.out]))
            refine ⟨⟨k + 1, by omega, by go_num, (by (try show Ex _ _); repeat (first | (with_reducible exact ex_refl _) | (with_reducible assumption) | (with_reducible refine ex_drewL ?_) | (with_reducible refine ex_appR ?_ _) | (with_reducible refine ex_wx ?_ _) | (with_reducible refine ex_drew ?_) | (with_reducible refine ex_alloc ?_ _)))⟩, by simp [intOf]; omega⟩
        · obtain ⟨mn, hmn⟩ : ∃ mn, min en 200 = mn := ⟨_, rfl⟩
          have hm0 : 0 < mn := by omega
          obtain ⟨g2, off2, rfl, hg2, hc2⟩ := k4.pos hpos
          have hL : ((List.range mn).map ef).length = mn := by simp
          have hsl := sll_of_slb (slb_take k4 (m := mn) (by omega))
          generalize (List.range mn).map ef = L at hL hsl
          have HS : Hid (∀ w', Ex w w' → SlS w' (.slice (some ⟨g2, off2, none⟩) mn ec) L) := Lib.hid fun w' kk => ⟨⟨g2, off2, none⟩, ec, by rw [hL], by rw [hL]; omega, by unfold maxLen; omega, hsl.ex kk⟩
          have HL : Hid (L.length = mn) := Lib.hid hL
          have hm2 : mn ≤ 200 := by omega
          have e8 := eqF_same (dF (leafD L)) 32
          generalize hq : leafD L = lz at e8
          have HQ0 : Hid (leafD L = lz) := Lib.hid hq
          clear hq k4 k3 hL hsl hc2
          have tok1 : True := trivial
          by_cases h200 : 200 < en
          · obtain rfl : mn = 200 := by omega
            have e2 : (200 : Int) ≤ ec := by omega
            have e4 : (200 : Int) < en := by omega
            clear hmn
            go_wp2_with (first | (at_builtin; have _t := tok1; refine wpAppB _ _ rfl rfl (ownb_empty (Z := w.heap.size) (by (try show Ex _ _); repeat (first | (with_reducible exact ex_refl _) | (with_reducible assumption) | (with_reducible refine ex_drewL ?_) | (with_reducible refine ex_appR ?_ _) | (with_reducible refine ex_wx ?_ _) | (with_reducible refine ex_drew ?_) | (with_reducible refine ex_alloc ?_ _))) (by simp [go_sem]) (by simp [go_sem] <;> omega)) rfl rfl (HS.out _ (by (try show Ex _ _); repeat (first | (with_reducible exact ex_refl _) | (with_reducible assumption) | (with_reducible refine ex_drewL ?_) | (with_reducible refine ex_appR ?_ _) | (with_reducible refine ex_wx ?_ _) | (with_reducible refine ex_drew ?_) | (with_reducible refine ex_alloc ?_ _)))) (by have := HL.out; omega) (by simp [go_sem] <;> omega) (fun v1 w1 hown hbe => ?_); obtain ⟨X3, rfl⟩ := exOf (A := w) (by (try show Ex _ _); repeat (first | (with_reducible exact ex_refl _) | (with_reducible assumption) | (with_reducible refine ex_drewL ?_) | (with_reducible refine ex_appR ?_ _) | (with_reducible refine ex_wx ?_ _) | (with_reducible refine ex_drew ?_) | (with_reducible refine ex_alloc ?_ _))) hbe; rw [List.nil_append, Nat.zero_add] at hown; have SV := own_sls hown (by rw [HL.out]; exact hm0); clear tok1) | (at_builtin; refine wpAppB _ _ rfl rfl (ownb_empty (Z := w.heap.size) (by (try show Ex _ _); repeat (first | (with_reducible exact ex_refl _) | (with_reducible assumption) | (with_reducible refine ex_drewL ?_) | (with_reducible refine ex_appR ?_ _) | (with_reducible refine ex_wx ?_ _) | (with_reducible refine ex_drew ?_) | (with_reducible refine ex_alloc ?_ _))) (by simp [go_sem]) (by simp [go_sem] <;> omega)) rfl rfl (SV.ex (by (try show Ex _ _); repeat (first | (with_reducible exact ex_refl _) | (with_reducible assumption) | (with_reducible refine ex_drewL ?_) | (with_reducible refine ex_appR ?_ _) | (with_reducible refine ex_wx ?_ _) | (with_reducible refine ex_drew ?_) | (with_reducible refine ex_alloc ?_ _)))) (by have := HL.out; omega) (by simp [go_sem] <;> omega) (fun v2 w2 hown2 hbe2 => ?_); obtain ⟨X4, rfl⟩ := exOf (A := w) (by (try show Ex _ _); repeat (first | (with_reducible exact ex_refl _) | (with_reducible assumption) | (with_reducible refine ex_drewL ?_) | (with_reducible refine ex_appR ?_ _) | (with_reducible refine ex_wx ?_ _) | (with_reducible refine ex_drew ?_) | (with_reducible refine ex_alloc ?_ _))) hbe2; rw [List.nil_append, Nat.zero_add] at hown2; have SZ := owns_slt hown2) | (go_at_call 26; refine (leaf_slt (by have := HL.out; omega) _ (SV.ex (by (try show Ex _ _); repeat (first | (with_reducible exact ex_refl _) | (with_reducible assumption) | (with_reducible refine ex_drewL ?_) | (with_reducible refine ex_appR ?_ _) | (with_reducible refine ex_wx ?_ _) | (with_reducible refine ex_drew ?_) | (with_reducible refine ex_alloc ?_ _)))).slt (G.ex (by (try show Ex _ _); repeat (first | (with_reducible exact ex_refl _) | (with_reducible assumption) | (with_reducible refine ex_drewL ?_) | (with_reducible refine ex_appR ?_ _) | (with_reducible refine ex_wx ?_ _) | (with_reducible refine ex_drew ?_) | (with_reducible refine ex_alloc ?_ _))))).mono ?_; rintro e w5 ⟨rfl, X5, rfl⟩; rw [HQ0.out]) | (go_at_call 27; refine (refleaf_slt (by have := HL.out; omega) _ (SZ.ex (by (try show Ex _ _); repeat (first | (with_reducible exact ex_refl _) | (with_reducible assumption) | (with_reducible refine ex_drewL ?_) | (with_reducible refine ex_appR ?_ _) | (with_reducible refine ex_wx ?_ _) | (with_reducible refine ex_drew ?_) | (with_reducible refine ex_alloc ?_ _))))).mono ?_; rintro e w6 ⟨rfl, X6, rfl⟩; rw [HQ0.out]))
            refine ⟨⟨k + 1, by omega, by go_num, (by (try show Ex _ _); repeat (first | (with_reducible exact ex_refl _) | (with_reducible assumption) | (with_reducible refine ex_drewL ?_) | (with_reducible refine ex_appR ?_ _) | (with_reducible refine ex_wx ?_ _) | (with_reducible refine ex_drew ?_) | (with_reducible refine ex_alloc ?_ _)))⟩, by simp [intOf]; omega⟩
          · obtain rfl : mn = en := by omega
            have e2 : (mn : Int) ≤ ec := by omega
            have e4 : ¬ (200 : Int) < mn := by omega
            clear hmn
            go_wp2_with (first | (at_builtin; have _t := tok1; refine wpAppB _ _ rfl rfl (ownb_empty (Z := w.heap.size) (by (try show Ex _ _); repeat (first | (with_reducible exact ex_refl _) | (with_reducible assumption) | (with_reducible refine ex_drewL ?_) | (with_reducible refine ex_appR ?_ _) | (with_reducible refine ex_wx ?_ _) | (with_reducible refine ex_drew ?_) | (with_reducible refine ex_alloc ?_ _))) (by simp [go_sem]) (by simp [go_sem] <;> omega)) rfl rfl (HS.out _ (by (try show Ex _ _); repeat (first | (with_reducible exact ex_refl _) | (with_reducible assumption) | (with_reducible refine ex_drewL ?_) | (with_reducible refine ex_appR ?_ _) | (with_reducible refine ex_wx ?_ _) | (with_reducible refine ex_drew ?_) | (with_reducible refine ex_alloc ?_ _)))) (by have := HL.out; omega) (by simp [go_sem] <;> omega) (fun v1 w1 hown hbe => ?_); obtain ⟨X3, rfl⟩ := exOf (A := w) (by (try show Ex _ _); repeat (first | (with_reducible exact ex_refl _) | (with_reducible assumption) | (with_reducible refine ex_drewL ?_) | (with_reducible refine ex_appR ?_ _) | (with_reducible refine ex_wx ?_ _) | (with_reducible refine ex_drew ?_) | (with_reducible refine ex_alloc ?_ _))) hbe; rw [List.nil_append, Nat.zero_add] at hown; have SV := own_sls hown (by rw [HL.out]; exact hm0); clear tok1) | (at_builtin; refine wpAppB _ _ rfl rfl (ownb_empty (Z := w.heap.size) (by (try show Ex _ _); repeat (first | (with_reducible exact ex_refl _) | (with_reducible assumption) | (with_reducible refine ex_drewL ?_) | (with_reducible refine ex_appR ?_ _) | (with_reducible refine ex_wx ?_ _) | (with_reducible refine ex_drew ?_) | (with_reducible refine ex_alloc ?_ _))) (by simp [go_sem]) (by simp [go_sem] <;> omega)) rfl rfl (SV.ex (by (try show Ex _ _); repeat (first | (with_reducible exact ex_refl _) | (with_reducible assumption) | (with_reducible refine ex_drewL ?_) | (with_reducible refine ex_appR ?_ _) | (with_reducible refine ex_wx ?_ _) | (with_reducible refine ex_drew ?_) | (with_reducible refine ex_alloc ?_ _)))) (by have := HL.out; omega) (by simp [go_sem] <;> omega) (fun v2 w2 hown2 hbe2 => ?_); obtain ⟨X4, rfl⟩ := exOf (A := w) (by (try show Ex _ _); repeat (first | (with_reducible exact ex_refl _) | (with_reducible assumption) | (with_reducible refine ex_drewL ?_) | (with_reducible refine ex_appR ?_ _) | (with_reducible refine ex_wx ?_ _) | (with_reducible refine ex_drew ?_) | (with_reducible refine ex_alloc ?_ _))) hbe2; rw [List.nil_append, Nat.zero_add] at hown2; have SZ := owns_slt hown2) | (go_at_call 26; refine (leaf_slt (by have := HL.out; omega) _ (SV.ex (by (try show Ex _ _); repeat (first | (with_reducible exact ex_refl _) | (with_reducible assumption) | (with_reducible refine ex_drewL ?_) | (with_reducible refine ex_appR ?_ _) | (with_reducible refine ex_wx ?_ _) | (with_reducible refine ex_drew ?_) | (with_reducible refine ex_alloc ?_ _)))).slt (G.ex (by (try show Ex _ _); repeat (first | (with_reducible exact ex_refl _) | (with_reducible assumption) | (with_reducible refine ex_drewL ?_) | (with_reducible refine ex_appR ?_ _) | (with_reducible refine ex_wx ?_ _) | (with_reducible refine ex_drew ?_) | (with_reducible refine ex_alloc ?_ _))))).mono ?_; rintro e w5 ⟨rfl, X5, rfl⟩; rw [HQ0.out]) | (go_at_call 27; refine (refleaf_slt (by have := HL.out; omega) _ (SZ.ex (by (try show Ex _ _); repeat (first | (with_reducible exact ex_refl _) | (with_reducible assumption) | (with_reducible refine ex_drewL ?_) | (with_reducible refine ex_appR ?_ _) | (with_reducible refine ex_wx ?_ _) | (with_reducible refine ex_drew ?_) | (with_reducible refine ex_alloc ?_ _))))).mono ?_; rintro e w6 ⟨rfl, X6, rfl⟩; rw [HQ0.out]))
            refine ⟨⟨k + 1, by omega, by go_num, (by (try show Ex _ _); repeat (first | (with_reducible exact ex_refl _) | (with_reducible assumption) | (with_reducible refine ex_drewL ?_) | (with_reducible refine ex_appR ?_ _) | (with_reducible refine ex_wx ?_ _) | (with_reducible refine ex_drew ?_) | (with_reducible refine ex_alloc ?_ _)))⟩, by simp [intOf]; omega⟩
    · obtain rfl : k = n := by omega
      clear hlt hk
      go_wp2_with (first | (go_at_call 17; (with_reducible refine (HR.out _ _).mono ?_); rintro e w3 ⟨rfl, X2, rfl⟩) | (go_at_call 18; (with_reducible refine (HP.out _ _).mono ?_); rintro e w4 ⟨rfl, X3, rfl⟩) | (go_at_call 19; (with_reducible refine (HQ.out _ _).mono ?_); rintro e w5 ⟨rfl, X4, rfl⟩))
      go_ret
      exact post_mk rfl (by (try show Ex _ _); repeat (first | (with_reducible exact ex_refl _) | (with_reducible assumption) | (with_reducible refine ex_drewL ?_) | (with_reducible refine ex_appR ?_ _) | (with_reducible refine ex_wx ?_ _) | (with_reducible refine ex_drew ?_) | (with_reducible refine ex_alloc ?_ _)))
end Go.Proofs.YtbobamifpjlmiaaDoor
