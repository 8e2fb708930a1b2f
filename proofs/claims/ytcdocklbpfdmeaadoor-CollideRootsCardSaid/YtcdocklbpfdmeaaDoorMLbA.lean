import Derived.Test.YtcdocklbpfdmeaaDoorMLaC

/- CollideDigests: the law. -/
set_option linter.unusedSimpArgs false
set_option linter.unusedVariables false
set_option linter.unnecessarySimpa false
set_option maxRecDepth 20000
namespace Go.Proofs.YtcdocklbpfdmeaaDoor
open Go.RowKit
abbrev BL2 := List UInt8 × List UInt8
/-- A slice of clashes that came in. -/
structure SlC2 (w : World) (a : Option Addr) (n : Nat) (E : Nat → Value × Value) (F : Nat → BL2) : Prop where
  out : n = 0 ∨ ∃ g off, a = some ⟨g, off, none⟩ ∧ g < w.heap.size ∧ ∀ i, i < n → cellsN w g (off + i * 2) 2 = some #[(E i).1, (E i).2] ∧ SlT w (E i).1 (F i).1 ∧ SlT w (E i).2 (F i).2
set_option maxHeartbeats 2000000 in
theorem digestsC_any (W : Int) (l : List (List UInt8)) (a : Option Addr) (c : Nat) (a2 : Option Addr) (n2 c2 : Nat) (E : Nat → Value × Value) (F : Nat → BL2) (w : World) (G : Glob w) (hc : l.length ≤ c) (hcm : c ≤ maxLen) (hc2 : n2 ≤ c2) (hcm2 : c2 ≤ maxLen) (hs : SlLs w a l) (hs2 : SlC2 w a2 n2 E F) :
    Calls Tryd.prog 4 #[I W, .slice a l.length c, .slice a2 n2 c2] w (Post w (.bool true)) := by
  obtain ⟨n, hn⟩ : ∃ n, l.length = n := ⟨_, rfl⟩
  have HN : Hid (l.length = n) := Lib.hid hn
  rw [hn] at hc ⊢
  clear hn
  unfold maxLen at hcm hcm2
  have HWk := Lib.hid (wakesC_any w G)
  have HWd := Lib.hid fun w' => refwide_any W w'
  have HR := Lib.hid fun w' v b (h : SlT w' v b) => raw_s (w := w') h
  have HD := Lib.hid fun w' v b (k : Ex w w') (h : OwnU w' v (List.take 90 b)) => wdigest_any G W k h.slt (by rw [List.length_take]; omega)
  have HDD : Hid (wideB W = true → ∀ w' v b, OwnU w' v (List.take 90 b) → Calls Tryd.prog 26 #[I W, v] w' (Post w' (.agg (rowB 32 (dF (sumW W.toNat (b.take 90))))))) := Lib.hid fun hw w' v b h => by
    have hw := of_decide_eq_true hw
    obtain ⟨N, rfl⟩ : ∃ N : Nat, W = N := ⟨W.toNat, by omega⟩
    exact digest_any N (by omega) h.slt (by rw [List.length_take]; omega)
  go_enter Tryd.func4, Tryd.ntmps4
  go_wp2_with (go_at_call 11; (with_reducible refine HWk.out.mono ?_); rintro e w2 ⟨rfl, X, rfl⟩)
  go_loopw [17] (fun i W' => ∃ k : Nat, k ≤ n ∧ i = I k ∧ Ex w W') (fun i _ => n - (intOf i).toNat)
  case atStart => exact ⟨0, by omega, rfl, (by (try show Ex _ _); repeat (first | (with_reducible exact ex_refl _) | (with_reducible assumption) | (with_reducible refine ex_drewL ?_) | (with_reducible refine ex_appR ?_ _) | (with_reducible refine ex_wx ?_ _) | (with_reducible refine ex_drew ?_) | (with_reducible refine ex_alloc ?_ _)))⟩
  case round =>
    obtain ⟨k, hk, rfl, ⟨X, rfl⟩⟩ := hrel
    by_cases hlt : k < n
    · by_cases hk6 : k = 6
      · have hk6i : ((k : Int) == 6) = true := by rw [hk6]; rfl
        obtain ⟨g, off, rfl, hg, hcell⟩ := hs.pos (by rw [HN.out]; omega)
        obtain ⟨bv, hc1, hb1⟩ := hcell k _ (List.getElem?_eq_getElem (by rw [HN.out]; omega))
        obtain ⟨va, vc, rfl, _⟩ := hb1.out
        clear hk6 hcell hb1
        go_wp2
        go_loopw [54] (fun i W' => ∃ k : Nat, k ≤ n2 ∧ i = I k ∧ Ex w W') (fun i _ => n2 - (intOf i).toNat)
        case atStart => exact ⟨0, by omega, rfl, (by (try show Ex _ _); repeat (first | (with_reducible exact ex_refl _) | (with_reducible assumption) | (with_reducible refine ex_drewL ?_) | (with_reducible refine ex_appR ?_ _) | (with_reducible refine ex_wx ?_ _) | (with_reducible refine ex_drew ?_) | (with_reducible refine ex_alloc ?_ _)))⟩
        case round =>
          obtain ⟨q, hq, rfl, ⟨X, rfl⟩⟩ := hrel
          by_cases hlt2 : q < n2
          · obtain ⟨g, off, rfl, hg, hcell⟩ := hs2.out.resolve_left (by omega)
            obtain ⟨h1, hA1, hB1⟩ := hcell q hlt2
            generalize hEq : E q = e at h1 hA1 hB1
            obtain ⟨sa, sb⟩ := e
            generalize F q = f at hA1 hB1
            obtain ⟨fa, fb⟩ := f
            simp only at h1 hA1 hB1
            have HA := Lib.hid fun w' (h : Ex w w') => raw_s (hA1.ex h)
            have HB := Lib.hid fun w' (h : Ex w w') => raw_s (hB1.ex h)
            have HI := Lib.hid fun w' v u (h : Ex w w') (h1 : OwnU w' v (fa.take 90)) (h2 : OwnU w' u (fb.take 90)) => wis_any G W h h1.slt h2.slt (by rw [List.length_take]; omega) (by rw [List.length_take]; omega)
            have HJ := Lib.hid fun w' v u (h1 : OwnU w' v (fa.take 90)) (h2 : OwnU w' u (fb.take 90)) => dis_any W h1.slt h2.slt (by rw [List.length_take]; omega) (by rw [List.length_take]; omega)
            generalize isC W (fa.take 90) (fb.take 90) = bb at HI HJ
            obtain ⟨aa, ac, rfl, _⟩ := hA1.out
            obtain ⟨ba, bc, rfl, _⟩ := hB1.out
            have tok1 : True := trivial
            have tok2 : True := trivial
            clear hcell hEq hA1 hB1 hs hs2 HD HR HDD HWd
            by_cases hq6 : q < 6
            · have hq6i : (q : Int) < 6 := by omega
              go_wp2
              refine wp_region_seq [(0, true), (1, true), (2, true), (3, true), (4, true), (5, true), (7, true), (8, true), (12, true), (13, true), (14, true), (16, true), (17, true), (6, false), (9, false), (10, true), (11, false), (15, false), (18, false), (19, true), (20, false), (21, true), (22, true)] (by kernel_rfl) (by kernel_rfl) (fun _ _ d _ _ h => by cases d <;> exact h) ?_
              simp only [List.map_cons, List.map_nil, nth]
              repeat (first | ((with_reducible refine wpSeq_look ?_); go_big_quiet_step (fail); (with_reducible refine wpQuiet_nil ?_)) | ((with_reducible refine wpSeq_effF ?_ ?_); (focus rfl); go_simp) | ((with_reducible refine wpSeq_eff ?_ ?_); (focus rfl); (try dsimp only); go_wp2_with (first | (go_at_call 24; have _t := tok1; clear tok1; (with_reducible refine (HA.out _ (by (try show Ex _ _); repeat (first | (with_reducible exact ex_refl _) | (with_reducible assumption) | (with_reducible refine ex_drewL ?_) | (with_reducible refine ex_appR ?_ _) | (with_reducible refine ex_wx ?_ _) | (with_reducible refine ex_drew ?_) | (with_reducible refine ex_alloc ?_ _)))).mono ?_); rintro e w2 ⟨a1, c1, rfl, hv1, X1, rfl⟩; (try simp only [wx_wx, wx_drew] at hv1); replace hv1 := Lib.hid hv1) | (go_at_call 24; have _t := tok2; clear tok2; (with_reducible refine (HB.out _ (by (try show Ex _ _); repeat (first | (with_reducible exact ex_refl _) | (with_reducible assumption) | (with_reducible refine ex_drewL ?_) | (with_reducible refine ex_appR ?_ _) | (with_reducible refine ex_wx ?_ _) | (with_reducible refine ex_drew ?_) | (with_reducible refine ex_alloc ?_ _)))).mono ?_); rintro e w2 ⟨a2, c2, rfl, hv2, X2, rfl⟩; (try simp only [wx_wx, wx_drew] at hv2); replace hv2 := Lib.hid hv2) | (go_at_call 16; (with_reducible refine (HI.out _ _ _ (by (try show Ex _ _); repeat (first | (with_reducible exact ex_refl _) | (with_reducible assumption) | (with_reducible refine ex_drewL ?_) | (with_reducible refine ex_appR ?_ _) | (with_reducible refine ex_wx ?_ _) | (with_reducible refine ex_drew ?_) | (with_reducible refine ex_alloc ?_ _))) (hv1.out.ex (by (try show Ex _ _); repeat (first | (with_reducible exact ex_refl _) | (with_reducible assumption) | (with_reducible refine ex_drewL ?_) | (with_reducible refine ex_appR ?_ _) | (with_reducible refine ex_wx ?_ _) | (with_reducible refine ex_drew ?_) | (with_reducible refine ex_alloc ?_ _)))) (hv2.out.ex (by (try show Ex _ _); repeat (first | (with_reducible exact ex_refl _) | (with_reducible assumption) | (with_reducible refine ex_drewL ?_) | (with_reducible refine ex_appR ?_ _) | (with_reducible refine ex_wx ?_ _) | (with_reducible refine ex_drew ?_) | (with_reducible refine ex_alloc ?_ _))))).mono ?_); rintro e w2 ⟨rfl, X3, rfl⟩; have tok3 : True := trivial) | (go_at_call 24; have _t := tok3; clear tok3; (with_reducible refine (HA.out _ (by (try show Ex _ _); repeat (first | (with_reducible exact ex_refl _) | (with_reducible assumption) | (with_reducible refine ex_drewL ?_) | (with_reducible refine ex_appR ?_ _) | (with_reducible refine ex_wx ?_ _) | (with_reducible refine ex_drew ?_) | (with_reducible refine ex_alloc ?_ _)))).mono ?_); rintro e w2 ⟨a4, c4, rfl, hv4, X4, rfl⟩; (try simp only [wx_wx, wx_drew] at hv4); replace hv4 := Lib.hid hv4) | (go_at_call 24; (with_reducible refine (HB.out _ (by (try show Ex _ _); repeat (first | (with_reducible exact ex_refl _) | (with_reducible assumption) | (with_reducible refine ex_drewL ?_) | (with_reducible refine ex_appR ?_ _) | (with_reducible refine ex_wx ?_ _) | (with_reducible refine ex_drew ?_) | (with_reducible refine ex_alloc ?_ _)))).mono ?_); rintro e w2 ⟨a5, c5, rfl, hv5, X5, rfl⟩; (try simp only [wx_wx, wx_drew] at hv5); replace hv5 := Lib.hid hv5) | (go_at_call 27; (with_reducible refine (HJ.out _ _ _ (hv4.out.ex (by (try show Ex _ _); repeat (first | (with_reducible exact ex_refl _) | (with_reducible assumption) | (with_reducible refine ex_drewL ?_) | (with_reducible refine ex_appR ?_ _) | (with_reducible refine ex_wx ?_ _) | (with_reducible refine ex_drew ?_) | (with_reducible refine ex_alloc ?_ _)))) (hv5.out.ex (by (try show Ex _ _); repeat (first | (with_reducible exact ex_refl _) | (with_reducible assumption) | (with_reducible refine ex_drewL ?_) | (with_reducible refine ex_appR ?_ _) | (with_reducible refine ex_wx ?_ _) | (with_reducible refine ex_drew ?_) | (with_reducible refine ex_alloc ?_ _))))).mono ?_); rintro e w2 ⟨rfl, X6, rfl⟩)); refine mixQ_mk (by (try show Ex _ _); repeat (first | (with_reducible exact ex_refl _) | (with_reducible assumption) | (with_reducible refine ex_drewL ?_) | (with_reducible refine ex_appR ?_ _) | (with_reducible refine ex_wx ?_ _) | (with_reducible refine ex_drew ?_) | (with_reducible refine ex_alloc ?_ _))) ?_))
              refine wpSeq_nil ?_
              go_wp2
              exact ⟨⟨q + 1, by omega, by go_num, (by (try show Ex _ _); repeat (first | (with_reducible exact ex_refl _) | (with_reducible assumption) | (with_reducible refine ex_drewL ?_) | (with_reducible refine ex_appR ?_ _) | (with_reducible refine ex_wx ?_ _) | (with_reducible refine ex_drew ?_) | (with_reducible refine ex_alloc ?_ _)))⟩, by simp [intOf]; omega⟩
            · have hq6i : decide ((q : Int) < 6) = false := decide_eq_false (by omega)
              have hq6j : decide (q < 6) = false := decide_eq_false (by omega)
              go_wp2
              refine wp_region_seq [(0, true), (1, true), (2, true), (3, true), (4, true), (5, true), (7, true), (8, true), (12, true), (13, true), (14, true), (16, true), (17, true), (6, false), (9, false), (10, true), (11, false), (15, false), (18, false), (19, true), (20, false), (21, true), (22, true)] (by kernel_rfl) (by kernel_rfl) (fun _ _ d _ _ h => by cases d <;> exact h) ?_
              simp only [List.map_cons, List.map_nil, nth]
              repeat (first | ((with_reducible refine wpSeq_look ?_); go_big_quiet_step (fail); (with_reducible refine wpQuiet_nil ?_)) | ((with_reducible refine wpSeq_effF ?_ ?_); (focus rfl); go_simp) | ((with_reducible refine wpSeq_eff ?_ ?_); (focus rfl); (try dsimp only); go_wp2_with (fail); refine mixQ_mk (by (try show Ex _ _); repeat (first | (with_reducible exact ex_refl _) | (with_reducible assumption) | (with_reducible refine ex_drewL ?_) | (with_reducible refine ex_appR ?_ _) | (with_reducible refine ex_wx ?_ _) | (with_reducible refine ex_drew ?_) | (with_reducible refine ex_alloc ?_ _))) ?_))
              refine wpSeq_nil ?_
              go_wp2
              exact ⟨⟨q + 1, by omega, by go_num, (by (try show Ex _ _); repeat (first | (with_reducible exact ex_refl _) | (with_reducible assumption) | (with_reducible refine ex_drewL ?_) | (with_reducible refine ex_appR ?_ _) | (with_reducible refine ex_wx ?_ _) | (with_reducible refine ex_drew ?_) | (with_reducible refine ex_alloc ?_ _)))⟩, by simp [intOf]; omega⟩
          · obtain rfl : q = n2 := by omega
            clear hlt2 hq hs hs2 HD HR HDD HWd
            go_wp2
            go_ret
            exact post_mk rfl (by (try show Ex _ _); repeat (first | (with_reducible exact ex_refl _) | (with_reducible assumption) | (with_reducible refine ex_drewL ?_) | (with_reducible refine ex_appR ?_ _) | (with_reducible refine ex_wx ?_ _) | (with_reducible refine ex_drew ?_) | (with_reducible refine ex_alloc ?_ _)))
      · have hk6i : ((k : Int) == 6) = false := beq_eq_false_iff_ne.2 (by omega)
        obtain ⟨g, off, rfl, hg, hcell⟩ := hs.pos (by rw [HN.out]; omega)
        obtain ⟨b, hb⟩ : ∃ b, l[k]? = some b := ⟨_, List.getElem?_eq_getElem (by rw [HN.out]; omega)⟩
        obtain ⟨bv, hc1, hb1⟩ := hcell k b hb
        have HR1 := Lib.hid fun w' (h : Ex w w') => raw_s (hb1.ex h)
        obtain ⟨va, vc, rfl, _⟩ := hb1.out
        have HD1 := Lib.hid fun w' v => HD.out w' v b
        have hE := eqF_same (dF (sumW W.toNat (b.take 90))) 32
        have hZ := eqF_same (fun _ : Nat => (0 : UInt8)) 32
        clear hcell hb hb1 hs hs2 HR HWk
        cases hwd : wideB W with
        | true =>
          rw [hwd] at HWd
          have HDD1 := Lib.hid fun w' v => HDD.out hwd w' v b
          have HD2 : Hid (∀ w' v, Ex w w' → OwnU w' v (b.take 90) → Calls Tryd.prog 23 #[I W, v] w' (Post w' (.tuple #[.agg (rowB 32 (dF (sumW W.toNat (b.take 90)))), I 0]))) := Lib.hid fun w' v k h => by
            have := HD1.out w' v k h
            rwa [if_pos hwd] at this
          generalize sumW W.toNat (b.take 90) = x at HD2 HDD1 hE
          clear HD HD1 HDD hwd
          have tok1 : True := trivial
          go_wp2_with (first | (go_at_call 24; (with_reducible refine (HR1.out _ (by (try show Ex _ _); repeat (first | (with_reducible exact ex_refl _) | (with_reducible assumption) | (with_reducible refine ex_drewL ?_) | (with_reducible refine ex_appR ?_ _) | (with_reducible refine ex_wx ?_ _) | (with_reducible refine ex_drew ?_) | (with_reducible refine ex_alloc ?_ _)))).mono ?_); rintro e w2 ⟨a1, c1, rfl, hv1, X1, rfl⟩; (try simp only [wx_wx, wx_drew] at hv1); replace hv1 := Lib.hid hv1) | (go_at_call 23; (with_reducible refine (HD2.out _ _ (by (try show Ex _ _); repeat (first | (with_reducible exact ex_refl _) | (with_reducible assumption) | (with_reducible refine ex_drewL ?_) | (with_reducible refine ex_appR ?_ _) | (with_reducible refine ex_wx ?_ _) | (with_reducible refine ex_drew ?_) | (with_reducible refine ex_alloc ?_ _))) (hv1.out.ex (by (try show Ex _ _); repeat (first | (with_reducible exact ex_refl _) | (with_reducible assumption) | (with_reducible refine ex_drewL ?_) | (with_reducible refine ex_appR ?_ _) | (with_reducible refine ex_wx ?_ _) | (with_reducible refine ex_drew ?_) | (with_reducible refine ex_alloc ?_ _))))).mono ?_); rintro e w2 ⟨rfl, X2, rfl⟩) | (go_at_call 25; (with_reducible refine (HWd.out _).mono ?_); rintro e w2 ⟨rfl, X3, rfl⟩))
          refine wp_region_seq [(0, true), (1, true), (2, true), (3, true), (4, true), (5, true), (6, false), (7, false), (8, true), (9, true)] (by kernel_rfl) (by kernel_rfl) (fun _ _ d _ _ h => by cases d <;> exact h) ?_
          simp only [List.map_cons, List.map_nil, nth]
          repeat (first | ((with_reducible refine wpSeq_look ?_); go_big_quiet_step (fail); (with_reducible refine wpQuiet_nil ?_)) | ((with_reducible refine wpSeq_effF ?_ ?_); (focus rfl); go_simp) | ((with_reducible refine wpSeq_eff ?_ ?_); (focus rfl); (try dsimp only); go_wp2_with (first | (go_at_call 24; (with_reducible refine (HR1.out _ (by (try show Ex _ _); repeat (first | (with_reducible exact ex_refl _) | (with_reducible assumption) | (with_reducible refine ex_drewL ?_) | (with_reducible refine ex_appR ?_ _) | (with_reducible refine ex_wx ?_ _) | (with_reducible refine ex_drew ?_) | (with_reducible refine ex_alloc ?_ _)))).mono ?_); rintro e w2 ⟨a4, c4, rfl, hv4, X4, rfl⟩; (try simp only [wx_wx, wx_drew] at hv4); replace hv4 := Lib.hid hv4) | (go_at_call 26; (with_reducible refine (HDD1.out _ _ (hv4.out.ex (by (try show Ex _ _); repeat (first | (with_reducible exact ex_refl _) | (with_reducible assumption) | (with_reducible refine ex_drewL ?_) | (with_reducible refine ex_appR ?_ _) | (with_reducible refine ex_wx ?_ _) | (with_reducible refine ex_drew ?_) | (with_reducible refine ex_alloc ?_ _))))).mono ?_); rintro e w2 ⟨rfl, X5, rfl⟩)); refine mixQ_mk (by (try show Ex _ _); repeat (first | (with_reducible exact ex_refl _) | (with_reducible assumption) | (with_reducible refine ex_drewL ?_) | (with_reducible refine ex_appR ?_ _) | (with_reducible refine ex_wx ?_ _) | (with_reducible refine ex_drew ?_) | (with_reducible refine ex_alloc ?_ _))) ?_))
          refine wpSeq_nil ?_
          go_wp2
          exact ⟨⟨k + 1, by omega, by go_num, (by (try show Ex _ _); repeat (first | (with_reducible exact ex_refl _) | (with_reducible assumption) | (with_reducible refine ex_drewL ?_) | (with_reducible refine ex_appR ?_ _) | (with_reducible refine ex_wx ?_ _) | (with_reducible refine ex_drew ?_) | (with_reducible refine ex_alloc ?_ _)))⟩, by simp [intOf]; omega⟩
        | false =>
          rw [hwd] at HWd
          have HD2 : Hid (∀ w' v, Ex w w' → OwnU w' v (b.take 90) → Calls Tryd.prog 23 #[I W, v] w' (Post w' (.tuple #[.agg (rowB 32 fun _ => 0), I 2]))) := Lib.hid fun w' v k h => by
            have := HD1.out w' v k h
            rwa [if_neg (by rw [hwd]; decide), row_zeroC] at this
          clear HD HD1 HDD hwd
          go_wp2_with (first | (go_at_call 24; (with_reducible refine (HR1.out _ (by (try show Ex _ _); repeat (first | (with_reducible exact ex_refl _) | (with_reducible assumption) | (with_reducible refine ex_drewL ?_) | (with_reducible refine ex_appR ?_ _) | (with_reducible refine ex_wx ?_ _) | (with_reducible refine ex_drew ?_) | (with_reducible refine ex_alloc ?_ _)))).mono ?_); rintro e w2 ⟨a1, c1, rfl, hv1, X1, rfl⟩; (try simp only [wx_wx, wx_drew] at hv1); replace hv1 := Lib.hid hv1) | (go_at_call 23; (with_reducible refine (HD2.out _ _ (by (try show Ex _ _); repeat (first | (with_reducible exact ex_refl _) | (with_reducible assumption) | (with_reducible refine ex_drewL ?_) | (with_reducible refine ex_appR ?_ _) | (with_reducible refine ex_wx ?_ _) | (with_reducible refine ex_drew ?_) | (with_reducible refine ex_alloc ?_ _))) (hv1.out.ex (by (try show Ex _ _); repeat (first | (with_reducible exact ex_refl _) | (with_reducible assumption) | (with_reducible refine ex_drewL ?_) | (with_reducible refine ex_appR ?_ _) | (with_reducible refine ex_wx ?_ _) | (with_reducible refine ex_drew ?_) | (with_reducible refine ex_alloc ?_ _))))).mono ?_); rintro e w2 ⟨rfl, X2, rfl⟩) | (go_at_call 25; (with_reducible refine (HWd.out _).mono ?_); rintro e w2 ⟨rfl, X3, rfl⟩))
          exact ⟨⟨k + 1, by omega, by go_num, (by (try show Ex _ _); repeat (first | (with_reducible exact ex_refl _) | (with_reducible assumption) | (with_reducible refine ex_drewL ?_) | (with_reducible refine ex_appR ?_ _) | (with_reducible refine ex_wx ?_ _) | (with_reducible refine ex_drew ?_) | (with_reducible refine ex_alloc ?_ _)))⟩, by simp [intOf]; omega⟩
    · obtain rfl : k = n := by omega
      clear hlt hk
      go_wp2
      go_loopw [54] (fun i W' => ∃ k : Nat, k ≤ n2 ∧ i = I k ∧ Ex w W') (fun i _ => n2 - (intOf i).toNat)
      case atStart => exact ⟨0, by omega, rfl, (by (try show Ex _ _); repeat (first | (with_reducible exact ex_refl _) | (with_reducible assumption) | (with_reducible refine ex_drewL ?_) | (with_reducible refine ex_appR ?_ _) | (with_reducible refine ex_wx ?_ _) | (with_reducible refine ex_drew ?_) | (with_reducible refine ex_alloc ?_ _)))⟩
      case round =>
        obtain ⟨q, hq, rfl, ⟨X, rfl⟩⟩ := hrel
        by_cases hlt2 : q < n2
        · obtain ⟨g, off, rfl, hg, hcell⟩ := hs2.out.resolve_left (by omega)
          obtain ⟨h1, hA1, hB1⟩ := hcell q hlt2
          generalize hEq : E q = e at h1 hA1 hB1
          obtain ⟨sa, sb⟩ := e
          generalize F q = f at hA1 hB1
          obtain ⟨fa, fb⟩ := f
          simp only at h1 hA1 hB1
          have HA := Lib.hid fun w' (h : Ex w w') => raw_s (hA1.ex h)
          have HB := Lib.hid fun w' (h : Ex w w') => raw_s (hB1.ex h)
          have HI := Lib.hid fun w' v u (h : Ex w w') (h1 : OwnU w' v (fa.take 90)) (h2 : OwnU w' u (fb.take 90)) => wis_any G W h h1.slt h2.slt (by rw [List.length_take]; omega) (by rw [List.length_take]; omega)
          have HJ := Lib.hid fun w' v u (h1 : OwnU w' v (fa.take 90)) (h2 : OwnU w' u (fb.take 90)) => dis_any W h1.slt h2.slt (by rw [List.length_take]; omega) (by rw [List.length_take]; omega)
          generalize isC W (fa.take 90) (fb.take 90) = bb at HI HJ
          obtain ⟨aa, ac, rfl, _⟩ := hA1.out
          obtain ⟨ba, bc, rfl, _⟩ := hB1.out
          have tok1 : True := trivial
          have tok2 : True := trivial
          clear hcell hEq hA1 hB1 hs hs2 HD HR HDD HWd
          by_cases hq6 : q < 6
          · have hq6i : (q : Int) < 6 := by omega
            go_wp2
            refine wp_region_seq [(0, true), (1, true), (2, true), (3, true), (4, true), (5, true), (7, true), (8, true), (12, true), (13, true), (14, true), (16, true), (17, true), (6, false), (9, false), (10, true), (11, false), (15, false), (18, false), (19, true), (20, false), (21, true), (22, true)] (by kernel_rfl) (by kernel_rfl) (fun _ _ d _ _ h => by cases d <;> exact h) ?_
            simp only [List.map_cons, List.map_nil, nth]
            repeat (first | ((with_reducible refine wpSeq_look ?_); go_big_quiet_step (fail); (with_reducible refine wpQuiet_nil ?_)) | ((with_reducible refine wpSeq_effF ?_ ?_); (focus rfl); go_simp) | ((with_reducible refine wpSeq_eff ?_ ?_); (focus rfl); (try dsimp only); go_wp2_with (first | (go_at_call 24; have _t := tok1; clear tok1; (with_reducible refine (HA.out _ (by (try show Ex _ _); repeat (first | (with_reducible exact ex_refl _) | (with_reducible assumption) | (with_reducible refine ex_drewL ?_) | (with_reducible refine ex_appR ?_ _) | (with_reducible refine ex_wx ?_ _) | (with_reducible refine ex_drew ?_) | (with_reducible refine ex_alloc ?_ _)))).mono ?_); rintro e w2 ⟨a1, c1, rfl, hv1, X1, rfl⟩; (try simp only [wx_wx, wx_drew] at hv1); replace hv1 := Lib.hid hv1) | (go_at_call 24; have _t := tok2; clear tok2; (with_reducible refine (HB.out _ (by (try show Ex _ _); repeat (first | (with_reducible exact ex_refl _) | (with_reducible assumption) | (with_reducible refine ex_drewL ?_) | (with_reducible refine ex_appR ?_ _) | (with_reducible refine ex_wx ?_ _) | (with_reducible refine ex_drew ?_) | (with_reducible refine ex_alloc ?_ _)))).mono ?_); rintro e w2 ⟨a2, c2, rfl, hv2, X2, rfl⟩; (try simp only [wx_wx, wx_drew] at hv2); replace hv2 := Lib.hid hv2) | (go_at_call 16; (with_reducible refine (HI.out _ _ _ (by (try show Ex _ _); repeat (first | (with_reducible exact ex_refl _) | (with_reducible assumption) | (with_reducible refine ex_drewL ?_) | (with_reducible refine ex_appR ?_ _) | (with_reducible refine ex_wx ?_ _) | (with_reducible refine ex_drew ?_) | (with_reducible refine ex_alloc ?_ _))) (hv1.out.ex (by (try show Ex _ _); repeat (first | (with_reducible exact ex_refl _) | (with_reducible assumption) | (with_reducible refine ex_drewL ?_) | (with_reducible refine ex_appR ?_ _) | (with_reducible refine ex_wx ?_ _) | (with_reducible refine ex_drew ?_) | (with_reducible refine ex_alloc ?_ _)))) (hv2.out.ex (by (try show Ex _ _); repeat (first | (with_reducible exact ex_refl _) | (with_reducible assumption) | (with_reducible refine ex_drewL ?_) | (with_reducible refine ex_appR ?_ _) | (with_reducible refine ex_wx ?_ _) | (with_reducible refine ex_drew ?_) | (with_reducible refine ex_alloc ?_ _))))).mono ?_); rintro e w2 ⟨rfl, X3, rfl⟩; have tok3 : True := trivial) | (go_at_call 24; have _t := tok3; clear tok3; (with_reducible refine (HA.out _ (by (try show Ex _ _); repeat (first | (with_reducible exact ex_refl _) | (with_reducible assumption) | (with_reducible refine ex_drewL ?_) | (with_reducible refine ex_appR ?_ _) | (with_reducible refine ex_wx ?_ _) | (with_reducible refine ex_drew ?_) | (with_reducible refine ex_alloc ?_ _)))).mono ?_); rintro e w2 ⟨a4, c4, rfl, hv4, X4, rfl⟩; (try simp only [wx_wx, wx_drew] at hv4); replace hv4 := Lib.hid hv4) | (go_at_call 24; (with_reducible refine (HB.out _ (by (try show Ex _ _); repeat (first | (with_reducible exact ex_refl _) | (with_reducible assumption) | (with_reducible refine ex_drewL ?_) | (with_reducible refine ex_appR ?_ _) | (with_reducible refine ex_wx ?_ _) | (with_reducible refine ex_drew ?_) | (with_reducible refine ex_alloc ?_ _)))).mono ?_); rintro e w2 ⟨a5, c5, rfl, hv5, X5, rfl⟩; (try simp only [wx_wx, wx_drew] at hv5); replace hv5 := Lib.hid hv5) | (go_at_call 27; (with_reducible refine (HJ.out _ _ _ (hv4.out.ex (by (try show Ex _ _); repeat (first | (with_reducible exact ex_refl _) | (with_reducible assumption) | (with_reducible refine ex_drewL ?_) | (with_reducible refine ex_appR ?_ _) | (with_reducible refine ex_wx ?_ _) | (with_reducible refine ex_drew ?_) | (with_reducible refine ex_alloc ?_ _)))) (hv5.out.ex (by (try show Ex _ _); repeat (first | (with_reducible exact ex_refl _) | (with_reducible assumption) | (with_reducible refine ex_drewL ?_) | (with_reducible refine ex_appR ?_ _) | (with_reducible refine ex_wx ?_ _) | (with_reducible refine ex_drew ?_) | (with_reducible refine ex_alloc ?_ _))))).mono ?_); rintro e w2 ⟨rfl, X6, rfl⟩)); refine mixQ_mk (by (try show Ex _ _); repeat (first | (with_reducible exact ex_refl _) | (with_reducible assumption) | (with_reducible refine ex_drewL ?_) | (with_reducible refine ex_appR ?_ _) | (with_reducible refine ex_wx ?_ _) | (with_reducible refine ex_drew ?_) | (with_reducible refine ex_alloc ?_ _))) ?_))
            refine wpSeq_nil ?_
            go_wp2
            exact ⟨⟨q + 1, by omega, by go_num, (by (try show Ex _ _); repeat (first | (with_reducible exact ex_refl _) | (with_reducible assumption) | (with_reducible refine ex_drewL ?_) | (with_reducible refine ex_appR ?_ _) | (with_reducible refine ex_wx ?_ _) | (with_reducible refine ex_drew ?_) | (with_reducible refine ex_alloc ?_ _)))⟩, by simp [intOf]; omega⟩
          · have hq6i : decide ((q : Int) < 6) = false := decide_eq_false (by omega)
            have hq6j : decide (q < 6) = false := decide_eq_false (by omega)
            go_wp2
            refine wp_region_seq [(0, true), (1, true), (2, true), (3, true), (4, true), (5, true), (7, true), (8, true), (12, true), (13, true), (14, true), (16, true), (17, true), (6, false), (9, false), (10, true), (11, false), (15, false), (18, false), (19, true), (20, false), (21, true), (22, true)] (by kernel_rfl) (by kernel_rfl) (fun _ _ d _ _ h => by cases d <;> exact h) ?_
            simp only [List.map_cons, List.map_nil, nth]
            repeat (first | ((with_reducible refine wpSeq_look ?_); go_big_quiet_step (fail); (with_reducible refine wpQuiet_nil ?_)) | ((with_reducible refine wpSeq_effF ?_ ?_); (focus rfl); go_simp) | ((with_reducible refine wpSeq_eff ?_ ?_); (focus rfl); (try dsimp only); go_wp2_with (fail); refine mixQ_mk (by (try show Ex _ _); repeat (first | (with_reducible exact ex_refl _) | (with_reducible assumption) | (with_reducible refine ex_drewL ?_) | (with_reducible refine ex_appR ?_ _) | (with_reducible refine ex_wx ?_ _) | (with_reducible refine ex_drew ?_) | (with_reducible refine ex_alloc ?_ _))) ?_))
            refine wpSeq_nil ?_
            go_wp2
            exact ⟨⟨q + 1, by omega, by go_num, (by (try show Ex _ _); repeat (first | (with_reducible exact ex_refl _) | (with_reducible assumption) | (with_reducible refine ex_drewL ?_) | (with_reducible refine ex_appR ?_ _) | (with_reducible refine ex_wx ?_ _) | (with_reducible refine ex_drew ?_) | (with_reducible refine ex_alloc ?_ _)))⟩, by simp [intOf]; omega⟩
        · obtain rfl : q = n2 := by omega
          clear hlt2 hq hs hs2 HD HR HDD HWd
          go_wp2
          go_ret
          exact post_mk rfl (by (try show Ex _ _); repeat (first | (with_reducible exact ex_refl _) | (with_reducible assumption) | (with_reducible refine ex_drewL ?_) | (with_reducible refine ex_appR ?_ _) | (with_reducible refine ex_wx ?_ _) | (with_reducible refine ex_drew ?_) | (with_reducible refine ex_alloc ?_ _)))
end Go.Proofs.YtcdocklbpfdmeaaDoor
