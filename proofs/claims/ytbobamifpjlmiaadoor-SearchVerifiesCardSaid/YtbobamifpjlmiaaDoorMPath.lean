import Derived.Test.YtbobamifpjlmiaaDoorMBits
import Derived.Test.YtbobamifpjlmiaaDoorMSeq

/- Root, Path, Proof. -/
set_option linter.unusedSimpArgs false
set_option linter.unusedVariables false
set_option maxRecDepth 20000
namespace Go.Proofs.YtbobamifpjlmiaaDoor
open Go.RowKit
theorem Root_any (l : List Dg) (a : Option Addr) (c : Nat) (w : World) (hN : l.length ≤ 1024) (hc : l.length ≤ c) (hcm : c ≤ maxLen) (hs : SlD w a l) (G : Glob w) :
    Calls Tryd.prog 17 #[.slice a l.length c] w (Post w (.tuple #[.agg (rowB 32 (dF (rootD l))), I 0])) := by
  have HR : Hid (∀ w', Ex w w' → Calls Tryd.prog 63 #[.slice a l.length c] w' (Post w' (.agg (rowB 32 (dF (rootD l)))))) := Lib.hid fun w' k => root_any _ l a c w' rfl hN hc hcm (hs.ex k) (G.ex k)
  generalize rootD l = z at HR ⊢
  generalize l.length = n at hN hc HR ⊢
  clear hs
  unfold maxLen at hcm
  go_enter Tryd.func17, Tryd.ntmps17
  go_wp2_with (go_at_call 63; (with_reducible refine (HR.out _ (by (try show Ex _ _); repeat (first | (with_reducible exact ex_refl _) | (with_reducible assumption) | (with_reducible refine ex_drewL ?_) | (with_reducible refine ex_appR ?_ _) | (with_reducible refine ex_wx ?_ _) | (with_reducible refine ex_drew ?_) | (with_reducible refine ex_alloc ?_ _)))).mono ?_); rintro e w2 ⟨rfl, X, rfl⟩)
  exact ret_rowV (cs := rowB 32 (dF z)) (v := I 0) Tryd.results17 Tryd.underlying26 rfl info_id rfl (by simp [go_sem]) rfl rfl (post_mk rfl (by (try show Ex _ _); repeat (first | (with_reducible exact ex_refl _) | (with_reducible assumption) | (with_reducible refine ex_drewL ?_) | (with_reducible refine ex_appR ?_ _) | (with_reducible refine ex_wx ?_ _) | (with_reducible refine ex_drew ?_) | (with_reducible refine ex_alloc ?_ _))))
theorem Root_long (n : Nat) (a : Option Addr) (c : Nat) (w : World) (hN : 1024 < n) (hc : n ≤ c) (hcm : c ≤ maxLen) :
    Calls Tryd.prog 17 #[.slice a n c] w (Post w (.tuple #[.agg (rowB 32 fun _ => 0), I 3])) := by
  unfold maxLen at hcm
  go_enter Tryd.func17, Tryd.ntmps17
  go_wp2
  exact ret_rowV (cs := rowB 32 fun _ => 0) (v := I 3) Tryd.results17 Tryd.underlying26 rfl info_id rfl (by simp [go_sem]) rfl rfl (post_mk rfl (by (try show Ex _ _); repeat (first | (with_reducible exact ex_refl _) | (with_reducible assumption) | (with_reducible refine ex_drewL ?_) | (with_reducible refine ex_appR ?_ _) | (with_reducible refine ex_wx ?_ _) | (with_reducible refine ex_drew ?_) | (with_reducible refine ex_alloc ?_ _))))
def sliceLen (v : Value) : Nat := match v with | .slice _ n _ => n | _ => 0
@[go_sem] theorem sliceLen_slice (a : Option Addr) (n c : Nat) : sliceLen (.slice a n c) = n := rfl
set_option maxHeartbeats 2000000 in
theorem path_in (l : List Dg) (a : Option Addr) (c i : Nat) (w : World) (hN : l.length ≤ 1024) (hc : l.length ≤ c) (hcm : c ≤ maxLen) (hs : SlD w a l) (G : Glob w) (hi : i < l.length) :
    Calls Tryd.prog 18 #[.slice a l.length c, I i] w (PostO2 w (pathD l i)) := by
  unfold maxLen at hcm
  obtain ⟨g, off, rfl, hg, hcell⟩ := hs.pos (by omega)
  clear hcell
  obtain ⟨r, hr⟩ : ∃ r, r = pathD l i := ⟨_, rfl⟩
  rw [← hr]
  generalize hn : l.length = n at hN hc hi
  go_enter Tryd.func18, Tryd.ntmps18
  have t1 : decide ((1024 : Int) < n) = false := decide_eq_false (by omega)
  have t2 : decide ((i : Int) < 0) = false := decide_eq_false (by omega)
  have t3 : decide ((n : Int) ≤ i) = false := decide_eq_false (by omega)
  have t4 : decide (n ≤ i) = false := decide_eq_false (by omega)
  go_wp2
  clear t1 t2 t3 t4
  go_loopw [0, 1, 6] (fun s x v W => ∃ (m : List Dg) (off cap q : Nat) (out : List Dg), s = .slice (some ⟨g, off, none⟩) m.length cap ∧ x = I q ∧ q < m.length ∧ m.length ≤ cap ∧ cap ≤ 9223372036854775807 ∧ m.length ≤ 1024 ∧ out.length + m.length ≤ 1024 ∧
      Hid (r = pathD m q ++ out.reverse) ∧ Hid (SlD w (some ⟨g, off, none⟩) m) ∧ OwnD W w.heap.size v out ∧ Ex w W) (fun s _ _ _ => sliceLen s)
  case atStart => exact ⟨l, off, c, i, [], by rw [hn], rfl, by omega, by omega, by omega, by omega, by simp; omega, Lib.hid (by simpa using hr), Lib.hid hs, ownd_nil _ _, (by (try show Ex _ _); repeat (first | (with_reducible exact ex_refl _) | (with_reducible assumption) | (with_reducible refine ex_drewL ?_) | (with_reducible refine ex_appR ?_ _) | (with_reducible refine ex_wx ?_ _) | (with_reducible refine ex_drew ?_) | (with_reducible refine ex_alloc ?_ _)))⟩
  case round =>
    obtain ⟨m, off, cap, q, out, rfl, rfl, hq, k1, k2, k3, k4, HR, HS, hown, X, rfl⟩ := hrel
    by_cases h2 : 2 ≤ m.length
    · have hk1 := split_lt h2
      have hk2 := split_pos m.length
      have HSp := Lib.hid (split_any m.length h2 (by omega))
      have hpl := path_lo (l := m) (i := q) h2
      have hph := path_hi (l := m) (i := q) h2
      have hrt : ∀ w', Ex w w' → Calls Tryd.prog 63 #[.slice (some ⟨g, off, none⟩) (splitN m.length) cap] w' (Post w' (.agg (rowB 32 (dF (rootD (m.take (splitN m.length))))))) :=
        fun w' k => root_any _ _ _ cap w' (by rw [List.length_take]; omega) (by omega) (by omega) (by unfold maxLen; omega) ((HS.out.take _).ex k) (G.ex k)
      have hrd : ∀ w', Ex w w' → Calls Tryd.prog 63 #[.slice (some ⟨g, off + splitN m.length * 32, none⟩) (m.length - splitN m.length) (cap - splitN m.length)] w' (Post w' (.agg (rowB 32 (dF (rootD (m.drop (splitN m.length))))))) :=
        fun w' k => root_any _ _ _ _ w' (by rw [List.length_drop]) (by omega) (by omega) (by unfold maxLen; omega) ((HS.out.drop _).ex k) (G.ex k)
      have hst := HS.out.take (splitN m.length)
      have hsd := HS.out.drop (splitN m.length)
      have hlt : (m.take (splitN m.length)).length = splitN m.length := by rw [List.length_take]; omega
      have hld : (m.drop (splitN m.length)).length = m.length - splitN m.length := by rw [List.length_drop]
      generalize m.take (splitN m.length) = mt at hrt hst hlt hpl hph
      generalize m.drop (splitN m.length) = md at hrd hsd hld hpl hph
      generalize splitN m.length = k at hk1 hk2 HSp hrt hrd hst hsd hlt hld hpl hph
      generalize m.length = n2 at hq k1 k3 k4 h2 hk1 HSp hrd hld
      have j1 : (1 : Int) < n2 := by omega
      have j2 : (k : Int) ≤ n2 := by omega
      have j3 : (k : Int) ≤ cap := by omega
      have j4 : ¬ cap = k := by omega
      have j5 : (n2 : Int) ≤ cap := by omega
      by_cases hqk : q < k
      · have j6 : (q : Int) < k := by omega
        have HRt := Lib.hid hrd
        have HE := Lib.hid (hpl hqk)
        have HL : Hid (mt.length = k) := Lib.hid hlt
        have HSt := Lib.hid hst
        clear hrt hrd hst hsd hlt hld hpl hph hs
        generalize rootD md = z at HRt HE
        go_wp2_with (go_at_call 64; refine (HSp.out _).mono ?_; rintro e w' ⟨rfl, rfl⟩)
        refine wp_region_seqA (w) [(0, true), (1, true), (2, true), (3, true), (7, true), (8, true), (9, true), (4, false), (5, false), (6, false), (10, true), (11, true)] (by (try show Ex _ _); repeat (first | (with_reducible exact ex_refl _) | (with_reducible assumption) | (with_reducible refine ex_drewL ?_) | (with_reducible refine ex_appR ?_ _) | (with_reducible refine ex_wx ?_ _) | (with_reducible refine ex_drew ?_) | (with_reducible refine ex_alloc ?_ _))) (by kernel_rfl) (by kernel_rfl) (fun _ _ d _ _ h => by cases d <;> exact h) ?_
        simp only [List.map_cons, List.map_nil, nth]
        repeat (first | ((with_reducible refine wpSeq_look ?_); go_big_quiet_step (fail); (with_reducible refine wpQuiet_nil ?_)) | ((with_reducible refine wpSeq_effF ?_ ?_); (focus rfl); go_simp) | ((with_reducible refine wpSeq_eff ?_ ?_); (focus rfl); (try dsimp only); go_wp2_with (first | (go_at_call 63; (with_reducible refine (HRt.out _ (by (try show Ex _ _); repeat (first | (with_reducible exact ex_refl _) | (with_reducible assumption) | (with_reducible refine ex_drewL ?_) | (with_reducible refine ex_appR ?_ _) | (with_reducible refine ex_wx ?_ _) | (with_reducible refine ex_drew ?_) | (with_reducible refine ex_alloc ?_ _)))).mono ?_); rintro e w2 ⟨rfl, X4, rfl⟩) | (at_builtin; refine wpAppD (r := [z]) _ _ rfl rfl (hown.ex (by (try show Ex _ _); repeat (first | (with_reducible exact ex_refl _) | (with_reducible assumption) | (with_reducible refine ex_drewL ?_) | (with_reducible refine ex_appR ?_ _) | (with_reducible refine ex_wx ?_ _) | (with_reducible refine ex_drew ?_) | (with_reducible refine ex_alloc ?_ _)))) rfl rfl rfl (sld_one z (by (try show Ex _ _); repeat (first | (with_reducible exact ex_refl _) | (with_reducible assumption) | (with_reducible refine ex_drewL ?_) | (with_reducible refine ex_appR ?_ _) | (with_reducible refine ex_wx ?_ _) | (with_reducible refine ex_drew ?_) | (with_reducible refine ex_alloc ?_ _))) (by simp [go_sem])) (by simp; omega) (by simp [go_sem] <;> omega) (fun v1 w1 hown1 hbe => ?_); obtain ⟨X1, rfl⟩ := exOf (A := w) (by (try show Ex _ _); repeat (first | (with_reducible exact ex_refl _) | (with_reducible assumption) | (with_reducible refine ex_drewL ?_) | (with_reducible refine ex_appR ?_ _) | (with_reducible refine ex_wx ?_ _) | (with_reducible refine ex_drew ?_) | (with_reducible refine ex_alloc ?_ _))) hbe)); refine mixQ_mk (by (try show Ex _ _); repeat (first | (with_reducible exact ex_refl _) | (with_reducible assumption) | (with_reducible refine ex_drewL ?_) | (with_reducible refine ex_appR ?_ _) | (with_reducible refine ex_wx ?_ _) | (with_reducible refine ex_drew ?_) | (with_reducible refine ex_alloc ?_ _))) ?_))
        refine wpSeq_nil ?_
        go_wp2
        refine ⟨⟨mt, off, cap, q, out ++ [z], by rw [HL.out], rfl, by have := HL.out; omega, by have := HL.out; omega, by omega, by have := HL.out; omega, by have := HL.out; simp; omega, Lib.hid ?_, HSt, hown1, (by (try show Ex _ _); repeat (first | (with_reducible exact ex_refl _) | (with_reducible assumption) | (with_reducible refine ex_drewL ?_) | (with_reducible refine ex_appR ?_ _) | (with_reducible refine ex_wx ?_ _) | (with_reducible refine ex_drew ?_) | (with_reducible refine ex_alloc ?_ _)))⟩, by simp [sliceLen]; omega⟩
        rw [HR.out, HE.out]; simp
      · have j6 : ¬ (q : Int) < k := by omega
        have HRt := Lib.hid hrt
        have HE := Lib.hid (hph hqk)
        have HL : Hid (md.length = n2 - k) := Lib.hid hld
        have HSt := Lib.hid hsd
        clear hrt hrd hst hsd hlt hld hpl hph hs
        generalize rootD mt = z at HRt HE
        go_wp2_with (go_at_call 64; refine (HSp.out _).mono ?_; rintro e w' ⟨rfl, rfl⟩)
        refine wp_region_seqA (w) [(0, true), (1, true), (2, true), (3, true), (7, true), (8, true), (9, true), (10, true), (11, true), (12, true), (4, false), (5, false), (6, false), (13, true), (14, true), (15, true)] (by (try show Ex _ _); repeat (first | (with_reducible exact ex_refl _) | (with_reducible assumption) | (with_reducible refine ex_drewL ?_) | (with_reducible refine ex_appR ?_ _) | (with_reducible refine ex_wx ?_ _) | (with_reducible refine ex_drew ?_) | (with_reducible refine ex_alloc ?_ _))) (by kernel_rfl) (by kernel_rfl) (fun _ _ d _ _ h => by cases d <;> exact h) ?_
        simp only [List.map_cons, List.map_nil, nth]
        repeat (first | ((with_reducible refine wpSeq_look ?_); go_big_quiet_step (fail); (with_reducible refine wpQuiet_nil ?_)) | ((with_reducible refine wpSeq_effF ?_ ?_); (focus rfl); go_simp) | ((with_reducible refine wpSeq_eff ?_ ?_); (focus rfl); (try dsimp only); go_wp2_with (first | (go_at_call 63; (with_reducible refine (HRt.out _ (by (try show Ex _ _); repeat (first | (with_reducible exact ex_refl _) | (with_reducible assumption) | (with_reducible refine ex_drewL ?_) | (with_reducible refine ex_appR ?_ _) | (with_reducible refine ex_wx ?_ _) | (with_reducible refine ex_drew ?_) | (with_reducible refine ex_alloc ?_ _)))).mono ?_); rintro e w2 ⟨rfl, X4, rfl⟩) | (at_builtin; refine wpAppD (r := [z]) _ _ rfl rfl (hown.ex (by (try show Ex _ _); repeat (first | (with_reducible exact ex_refl _) | (with_reducible assumption) | (with_reducible refine ex_drewL ?_) | (with_reducible refine ex_appR ?_ _) | (with_reducible refine ex_wx ?_ _) | (with_reducible refine ex_drew ?_) | (with_reducible refine ex_alloc ?_ _)))) rfl rfl rfl (sld_one z (by (try show Ex _ _); repeat (first | (with_reducible exact ex_refl _) | (with_reducible assumption) | (with_reducible refine ex_drewL ?_) | (with_reducible refine ex_appR ?_ _) | (with_reducible refine ex_wx ?_ _) | (with_reducible refine ex_drew ?_) | (with_reducible refine ex_alloc ?_ _))) (by simp [go_sem])) (by simp; omega) (by simp [go_sem] <;> omega) (fun v1 w1 hown1 hbe => ?_); obtain ⟨X1, rfl⟩ := exOf (A := w) (by (try show Ex _ _); repeat (first | (with_reducible exact ex_refl _) | (with_reducible assumption) | (with_reducible refine ex_drewL ?_) | (with_reducible refine ex_appR ?_ _) | (with_reducible refine ex_wx ?_ _) | (with_reducible refine ex_drew ?_) | (with_reducible refine ex_alloc ?_ _))) hbe)); refine mixQ_mk (by (try show Ex _ _); repeat (first | (with_reducible exact ex_refl _) | (with_reducible assumption) | (with_reducible refine ex_drewL ?_) | (with_reducible refine ex_appR ?_ _) | (with_reducible refine ex_wx ?_ _) | (with_reducible refine ex_drew ?_) | (with_reducible refine ex_alloc ?_ _))) ?_))
        refine wpSeq_nil ?_
        go_wp2
        refine ⟨⟨md, off + k * 32, cap - k, q - k, out ++ [z], by rw [HL.out], by go_num, by have := HL.out; omega, by have := HL.out; omega, by omega, by have := HL.out; omega, by have := HL.out; simp; omega, Lib.hid ?_, HSt, hown1, (by (try show Ex _ _); repeat (first | (with_reducible exact ex_refl _) | (with_reducible assumption) | (with_reducible refine ex_drewL ?_) | (with_reducible refine ex_appR ?_ _) | (with_reducible refine ex_wx ?_ _) | (with_reducible refine ex_drew ?_) | (with_reducible refine ex_alloc ?_ _)))⟩, by simp [sliceLen]; omega⟩
        rw [HR.out, HE.out]; simp
    · have hp := path_one (l := m) (by omega) q
      have HR2 : Hid (r = out.reverse) := Lib.hid (by rw [HR.out, hp]; simp)
      have j1 : ¬ (1 : Int) < m.length := by omega
      clear hp HR HS
      generalize m.length = n2 at hq k1 k3 k4 h2 j1
      go_wp2_with (go_at_call 65; refine (revd_any out _ _ hown (by omega)).mono ?_; rintro e w1 ⟨rfl, hown1, hbe⟩; obtain ⟨X1, rfl⟩ := exOf (A := w) (by (try show Ex _ _); repeat (first | (with_reducible exact ex_refl _) | (with_reducible assumption) | (with_reducible refine ex_drewL ?_) | (with_reducible refine ex_appR ?_ _) | (with_reducible refine ex_wx ?_ _) | (with_reducible refine ex_drew ?_) | (with_reducible refine ex_alloc ?_ _))) hbe)
      rw [HR2.out]
      exact bodyPost_ret (by simp [results, Tryd.results18]) rfl ⟨_, rfl, hown1, (by (try show Ex _ _); repeat (first | (with_reducible exact ex_refl _) | (with_reducible assumption) | (with_reducible refine ex_drewL ?_) | (with_reducible refine ex_appR ?_ _) | (with_reducible refine ex_wx ?_ _) | (with_reducible refine ex_drew ?_) | (with_reducible refine ex_alloc ?_ _)))⟩
theorem path_out (n : Nat) (a : Option Addr) (c : Nat) (i : Int) (w : World) (hN : n ≤ 1024) (hc : n ≤ c) (hcm : c ≤ maxLen) (hi : i < 0 ∨ (n : Int) ≤ i) :
    Calls Tryd.prog 18 #[.slice a n c, I i] w (Post w (.tuple #[.slice none 0 0, I 2])) := by
  unfold maxLen at hcm
  rcases hi with hi | hi
  all_goals
    go_enter Tryd.func18, Tryd.ntmps18
    go_wp2
    exact bodyPost_ret (by simp [results, Tryd.results18]) rfl (post_mk rfl (by (try show Ex _ _); repeat (first | (with_reducible exact ex_refl _) | (with_reducible assumption) | (with_reducible refine ex_drewL ?_) | (with_reducible refine ex_appR ?_ _) | (with_reducible refine ex_wx ?_ _) | (with_reducible refine ex_drew ?_) | (with_reducible refine ex_alloc ?_ _))))
theorem proof_out (n : Nat) (a : Option Addr) (c : Nat) (i : Int) (w : World) (hN : n ≤ 1024) (hc : n ≤ c) (hcm : c ≤ maxLen) (hi : i < 1 ∨ (n : Int) < i) :
    Calls Tryd.prog 19 #[.slice a n c, I i] w (Post w (.tuple #[.slice none 0 0, I 2])) := by
  unfold maxLen at hcm
  rcases hi with hi | hi
  all_goals
    go_enter Tryd.func19, Tryd.ntmps19
    go_wp2
    exact bodyPost_ret (by simp [results, Tryd.results19]) rfl (post_mk rfl (by (try show Ex _ _); repeat (first | (with_reducible exact ex_refl _) | (with_reducible assumption) | (with_reducible refine ex_drewL ?_) | (with_reducible refine ex_appR ?_ _) | (with_reducible refine ex_wx ?_ _) | (with_reducible refine ex_drew ?_) | (with_reducible refine ex_alloc ?_ _))))
theorem path_long (n : Nat) (a : Option Addr) (c : Nat) (i : Int) (w : World) (hN : 1024 < n) (hc : n ≤ c) (hcm : c ≤ maxLen) :
    Calls Tryd.prog 18 #[.slice a n c, I i] w (Post w (.tuple #[.slice none 0 0, I 3])) := by
  unfold maxLen at hcm
  go_enter Tryd.func18, Tryd.ntmps18
  go_wp2
  exact bodyPost_ret (by simp [results, Tryd.results18]) rfl (post_mk rfl (by (try show Ex _ _); repeat (first | (with_reducible exact ex_refl _) | (with_reducible assumption) | (with_reducible refine ex_drewL ?_) | (with_reducible refine ex_appR ?_ _) | (with_reducible refine ex_wx ?_ _) | (with_reducible refine ex_drew ?_) | (with_reducible refine ex_alloc ?_ _))))
theorem proof_long (n : Nat) (a : Option Addr) (c : Nat) (i : Int) (w : World) (hN : 1024 < n) (hc : n ≤ c) (hcm : c ≤ maxLen) :
    Calls Tryd.prog 19 #[.slice a n c, I i] w (Post w (.tuple #[.slice none 0 0, I 3])) := by
  unfold maxLen at hcm
  go_enter Tryd.func19, Tryd.ntmps19
  go_wp2
  exact bodyPost_ret (by simp [results, Tryd.results19]) rfl (post_mk rfl (by (try show Ex _ _); repeat (first | (with_reducible exact ex_refl _) | (with_reducible assumption) | (with_reducible refine ex_drewL ?_) | (with_reducible refine ex_appR ?_ _) | (with_reducible refine ex_wx ?_ _) | (with_reducible refine ex_drew ?_) | (with_reducible refine ex_alloc ?_ _))))
set_option maxHeartbeats 2000000 in
theorem proof_in (l : List Dg) (a : Option Addr) (c i : Nat) (w : World) (hN : l.length ≤ 1024) (hc : l.length ≤ c) (hcm : c ≤ maxLen) (hs : SlD w a l) (G : Glob w) (hi1 : 1 ≤ i) (hi : i ≤ l.length) :
    Calls Tryd.prog 19 #[.slice a l.length c, I i] w (PostO2 w (proofD l i true)) := by
  unfold maxLen at hcm
  obtain ⟨g, off, rfl, hg, hcell⟩ := hs.pos (by omega)
  clear hcell
  obtain ⟨r, hr⟩ : ∃ r, r = proofD l i true := ⟨_, rfl⟩
  rw [← hr]
  generalize hn : l.length = n at hN hc hi
  go_enter Tryd.func19, Tryd.ntmps19
  have t1 : decide ((1024 : Int) < n) = false := decide_eq_false (by omega)
  have t2 : decide ((i : Int) < 1) = false := decide_eq_false (by omega)
  have t3 : decide ((n : Int) < i) = false := decide_eq_false (by omega)
  have t4 : decide (n < i) = false := decide_eq_false (by omega)
  have t5 : decide (i < 1) = false := decide_eq_false (by omega)
  have t6 : (i == 0) = false := beq_eq_false_iff_ne.2 (by omega)
  go_wp2
  clear t1 t2 t3 t4 t5 t6
  go_loopw [0, 1, 6, 7] (fun s x v kb W => ∃ (m : List Dg) (off cap q : Nat) (out : List Dg) (kn : Bool), kb = .bool kn ∧ s = .slice (some ⟨g, off, none⟩) m.length cap ∧ x = I q ∧ 1 ≤ q ∧ q ≤ m.length ∧ m.length ≤ cap ∧ cap ≤ 9223372036854775807 ∧ m.length ≤ 1024 ∧ out.length + m.length ≤ 1024 ∧
      Hid (r = proofD m q kn ++ out.reverse) ∧ Hid (SlD w (some ⟨g, off, none⟩) m) ∧ OwnD W w.heap.size v out ∧ Ex w W) (fun s _ _ _ _ => sliceLen s)
  case atStart => exact ⟨l, off, c, i, [], true, rfl, by rw [hn], rfl, hi1, by omega, by omega, by omega, by omega, by simp; omega, Lib.hid (by simpa using hr), Lib.hid hs, ownd_nil _ _, (by (try show Ex _ _); repeat (first | (with_reducible exact ex_refl _) | (with_reducible assumption) | (with_reducible refine ex_drewL ?_) | (with_reducible refine ex_appR ?_ _) | (with_reducible refine ex_wx ?_ _) | (with_reducible refine ex_drew ?_) | (with_reducible refine ex_alloc ?_ _)))⟩
  case round =>
    obtain ⟨m, off, cap, q, out, kn, rfl, rfl, rfl, hq1, hq, k1, k2, k3, k4, HR, HS, hown, X, rfl⟩ := hrel
    by_cases h2 : q < m.length
    · have hk1 := split_lt (n := m.length) (by omega)
      have hk2 := split_pos m.length
      have HSp := Lib.hid (split_any m.length (by omega) (by omega))
      have hpl := fun h => proof_lo (l := m) (m := q) hq1 h2 h kn
      have hph := fun h => proof_hi (l := m) (m := q) hq1 h2 h kn
      have hrt : ∀ w', Ex w w' → Calls Tryd.prog 63 #[.slice (some ⟨g, off, none⟩) (splitN m.length) cap] w' (Post w' (.agg (rowB 32 (dF (rootD (m.take (splitN m.length))))))) :=
        fun w' k => root_any _ _ _ cap w' (by rw [List.length_take]; omega) (by omega) (by omega) (by unfold maxLen; omega) ((HS.out.take _).ex k) (G.ex k)
      have hrd : ∀ w', Ex w w' → Calls Tryd.prog 63 #[.slice (some ⟨g, off + splitN m.length * 32, none⟩) (m.length - splitN m.length) (cap - splitN m.length)] w' (Post w' (.agg (rowB 32 (dF (rootD (m.drop (splitN m.length))))))) :=
        fun w' k => root_any _ _ _ _ w' (by rw [List.length_drop]) (by omega) (by omega) (by unfold maxLen; omega) ((HS.out.drop _).ex k) (G.ex k)
      have hst := HS.out.take (splitN m.length)
      have hsd := HS.out.drop (splitN m.length)
      have hlt : (m.take (splitN m.length)).length = splitN m.length := by rw [List.length_take]; omega
      have hld : (m.drop (splitN m.length)).length = m.length - splitN m.length := by rw [List.length_drop]
      generalize m.take (splitN m.length) = mt at hrt hst hlt hpl hph
      generalize m.drop (splitN m.length) = md at hrd hsd hld hpl hph
      generalize splitN m.length = k at hk1 hk2 HSp hrt hrd hst hsd hlt hld hpl hph
      generalize m.length = n2 at hq k1 k3 k4 h2 hk1 HSp hrd hld
      have j1 : (q : Int) < n2 := by omega
      have j2 : (k : Int) ≤ n2 := by omega
      have j3 : (k : Int) ≤ cap := by omega
      have j4 : ¬ cap = k := by omega
      have j5 : (n2 : Int) ≤ cap := by omega
      by_cases hqk : q ≤ k
      · have j6 : (q : Int) ≤ k := by omega
        have HRt := Lib.hid hrd
        have HE := Lib.hid (hpl hqk)
        have HL : Hid (mt.length = k) := Lib.hid hlt
        have HSt := Lib.hid hst
        clear hrt hrd hst hsd hlt hld hpl hph hs
        generalize rootD md = z at HRt HE
        go_wp2_with (go_at_call 64; refine (HSp.out _).mono ?_; rintro e w' ⟨rfl, rfl⟩)
        refine wp_region_seqA (w) [(0, true), (1, true), (2, true), (3, true), (7, true), (8, true), (9, true), (4, false), (5, false), (6, false), (10, true), (11, true)] (by (try show Ex _ _); repeat (first | (with_reducible exact ex_refl _) | (with_reducible assumption) | (with_reducible refine ex_drewL ?_) | (with_reducible refine ex_appR ?_ _) | (with_reducible refine ex_wx ?_ _) | (with_reducible refine ex_drew ?_) | (with_reducible refine ex_alloc ?_ _))) (by kernel_rfl) (by kernel_rfl) (fun _ _ d _ _ h => by cases d <;> exact h) ?_
        simp only [List.map_cons, List.map_nil, nth]
        repeat (first | ((with_reducible refine wpSeq_look ?_); go_big_quiet_step (fail); (with_reducible refine wpQuiet_nil ?_)) | ((with_reducible refine wpSeq_effF ?_ ?_); (focus rfl); go_simp) | ((with_reducible refine wpSeq_eff ?_ ?_); (focus rfl); (try dsimp only); go_wp2_with (first | (go_at_call 63; (with_reducible refine (HRt.out _ (by (try show Ex _ _); repeat (first | (with_reducible exact ex_refl _) | (with_reducible assumption) | (with_reducible refine ex_drewL ?_) | (with_reducible refine ex_appR ?_ _) | (with_reducible refine ex_wx ?_ _) | (with_reducible refine ex_drew ?_) | (with_reducible refine ex_alloc ?_ _)))).mono ?_); rintro e w2 ⟨rfl, X4, rfl⟩) | (at_builtin; refine wpAppD (r := [z]) _ _ rfl rfl (hown.ex (by (try show Ex _ _); repeat (first | (with_reducible exact ex_refl _) | (with_reducible assumption) | (with_reducible refine ex_drewL ?_) | (with_reducible refine ex_appR ?_ _) | (with_reducible refine ex_wx ?_ _) | (with_reducible refine ex_drew ?_) | (with_reducible refine ex_alloc ?_ _)))) rfl rfl rfl (sld_one z (by (try show Ex _ _); repeat (first | (with_reducible exact ex_refl _) | (with_reducible assumption) | (with_reducible refine ex_drewL ?_) | (with_reducible refine ex_appR ?_ _) | (with_reducible refine ex_wx ?_ _) | (with_reducible refine ex_drew ?_) | (with_reducible refine ex_alloc ?_ _))) (by simp [go_sem])) (by simp; omega) (by simp [go_sem] <;> omega) (fun v1 w1 hown1 hbe => ?_); obtain ⟨X1, rfl⟩ := exOf (A := w) (by (try show Ex _ _); repeat (first | (with_reducible exact ex_refl _) | (with_reducible assumption) | (with_reducible refine ex_drewL ?_) | (with_reducible refine ex_appR ?_ _) | (with_reducible refine ex_wx ?_ _) | (with_reducible refine ex_drew ?_) | (with_reducible refine ex_alloc ?_ _))) hbe)); refine mixQ_mk (by (try show Ex _ _); repeat (first | (with_reducible exact ex_refl _) | (with_reducible assumption) | (with_reducible refine ex_drewL ?_) | (with_reducible refine ex_appR ?_ _) | (with_reducible refine ex_wx ?_ _) | (with_reducible refine ex_drew ?_) | (with_reducible refine ex_alloc ?_ _))) ?_))
        refine wpSeq_nil ?_
        go_wp2
        refine ⟨⟨mt, off, cap, q, out ++ [z], kn, rfl, by rw [HL.out], rfl, hq1, by have := HL.out; omega, by have := HL.out; omega, by omega, by have := HL.out; omega, by have := HL.out; simp; omega, Lib.hid ?_, HSt, hown1, (by (try show Ex _ _); repeat (first | (with_reducible exact ex_refl _) | (with_reducible assumption) | (with_reducible refine ex_drewL ?_) | (with_reducible refine ex_appR ?_ _) | (with_reducible refine ex_wx ?_ _) | (with_reducible refine ex_drew ?_) | (with_reducible refine ex_alloc ?_ _)))⟩, by simp [sliceLen]; omega⟩
        rw [HR.out, HE.out]; simp
      · have j6 : ¬ (q : Int) ≤ k := by omega
        have HRt := Lib.hid hrt
        have HE := Lib.hid (hph hqk)
        have HL : Hid (md.length = n2 - k) := Lib.hid hld
        have HSt := Lib.hid hsd
        clear hrt hrd hst hsd hlt hld hpl hph hs
        generalize rootD mt = z at HRt HE
        go_wp2_with (go_at_call 64; refine (HSp.out _).mono ?_; rintro e w' ⟨rfl, rfl⟩)
        refine wp_region_seqA (w) [(0, true), (1, true), (2, true), (3, true), (7, true), (8, true), (9, true), (10, true), (11, true), (12, true), (4, false), (5, false), (6, false), (13, true), (14, true), (15, true), (16, true)] (by (try show Ex _ _); repeat (first | (with_reducible exact ex_refl _) | (with_reducible assumption) | (with_reducible refine ex_drewL ?_) | (with_reducible refine ex_appR ?_ _) | (with_reducible refine ex_wx ?_ _) | (with_reducible refine ex_drew ?_) | (with_reducible refine ex_alloc ?_ _))) (by kernel_rfl) (by kernel_rfl) (fun _ _ d _ _ h => by cases d <;> exact h) ?_
        simp only [List.map_cons, List.map_nil, nth]
        repeat (first | ((with_reducible refine wpSeq_look ?_); go_big_quiet_step (fail); (with_reducible refine wpQuiet_nil ?_)) | ((with_reducible refine wpSeq_effF ?_ ?_); (focus rfl); go_simp) | ((with_reducible refine wpSeq_eff ?_ ?_); (focus rfl); (try dsimp only); go_wp2_with (first | (go_at_call 63; (with_reducible refine (HRt.out _ (by (try show Ex _ _); repeat (first | (with_reducible exact ex_refl _) | (with_reducible assumption) | (with_reducible refine ex_drewL ?_) | (with_reducible refine ex_appR ?_ _) | (with_reducible refine ex_wx ?_ _) | (with_reducible refine ex_drew ?_) | (with_reducible refine ex_alloc ?_ _)))).mono ?_); rintro e w2 ⟨rfl, X4, rfl⟩) | (at_builtin; refine wpAppD (r := [z]) _ _ rfl rfl (hown.ex (by (try show Ex _ _); repeat (first | (with_reducible exact ex_refl _) | (with_reducible assumption) | (with_reducible refine ex_drewL ?_) | (with_reducible refine ex_appR ?_ _) | (with_reducible refine ex_wx ?_ _) | (with_reducible refine ex_drew ?_) | (with_reducible refine ex_alloc ?_ _)))) rfl rfl rfl (sld_one z (by (try show Ex _ _); repeat (first | (with_reducible exact ex_refl _) | (with_reducible assumption) | (with_reducible refine ex_drewL ?_) | (with_reducible refine ex_appR ?_ _) | (with_reducible refine ex_wx ?_ _) | (with_reducible refine ex_drew ?_) | (with_reducible refine ex_alloc ?_ _))) (by simp [go_sem])) (by simp; omega) (by simp [go_sem] <;> omega) (fun v1 w1 hown1 hbe => ?_); obtain ⟨X1, rfl⟩ := exOf (A := w) (by (try show Ex _ _); repeat (first | (with_reducible exact ex_refl _) | (with_reducible assumption) | (with_reducible refine ex_drewL ?_) | (with_reducible refine ex_appR ?_ _) | (with_reducible refine ex_wx ?_ _) | (with_reducible refine ex_drew ?_) | (with_reducible refine ex_alloc ?_ _))) hbe)); refine mixQ_mk (by (try show Ex _ _); repeat (first | (with_reducible exact ex_refl _) | (with_reducible assumption) | (with_reducible refine ex_drewL ?_) | (with_reducible refine ex_appR ?_ _) | (with_reducible refine ex_wx ?_ _) | (with_reducible refine ex_drew ?_) | (with_reducible refine ex_alloc ?_ _))) ?_))
        refine wpSeq_nil ?_
        go_wp2
        refine ⟨⟨md, off + k * 32, cap - k, q - k, out ++ [z], false, rfl, by rw [HL.out], by go_num, by omega, by have := HL.out; omega, by have := HL.out; omega, by omega, by have := HL.out; omega, by have := HL.out; simp; omega, Lib.hid ?_, HSt, hown1, (by (try show Ex _ _); repeat (first | (with_reducible exact ex_refl _) | (with_reducible assumption) | (with_reducible refine ex_drewL ?_) | (with_reducible refine ex_appR ?_ _) | (with_reducible refine ex_wx ?_ _) | (with_reducible refine ex_drew ?_) | (with_reducible refine ex_alloc ?_ _)))⟩, by simp [sliceLen]; omega⟩
        rw [HR.out, HE.out]; simp
    · have hqm : q = m.length := by omega
      have hp := proof_all m kn
      rw [← hqm] at hp
      have HR2 : Hid (r = (if kn then [] else [rootD m]) ++ out.reverse) := Lib.hid (by rw [HR.out, hp])
      have hrm : ∀ w', Ex w w' → Calls Tryd.prog 63 #[.slice (some ⟨g, off, none⟩) m.length cap] w' (Post w' (.agg (rowB 32 (dF (rootD m))))) :=
        fun w' k => root_any _ _ _ cap w' rfl (by omega) (by omega) (by unfold maxLen; omega) (HS.out.ex k) (G.ex k)
      have HRt := Lib.hid hrm
      have j1 : ¬ (q : Int) < m.length := by omega
      clear hp HR HS hrm h2
      generalize rootD m = z at HR2 HRt
      rw [← hqm] at j1 k1 k3 k4 hq HRt ⊢
      clear hqm
      cases kn
      · go_wp2_with (first | (go_at_call 63; (with_reducible refine (HRt.out _ (by (try show Ex _ _); repeat (first | (with_reducible exact ex_refl _) | (with_reducible assumption) | (with_reducible refine ex_drewL ?_) | (with_reducible refine ex_appR ?_ _) | (with_reducible refine ex_wx ?_ _) | (with_reducible refine ex_drew ?_) | (with_reducible refine ex_alloc ?_ _)))).mono ?_); rintro e w2 ⟨rfl, X4, rfl⟩) | (at_builtin; refine wpAppD (r := [z]) _ _ rfl rfl (hown.ex (by (try show Ex _ _); repeat (first | (with_reducible exact ex_refl _) | (with_reducible assumption) | (with_reducible refine ex_drewL ?_) | (with_reducible refine ex_appR ?_ _) | (with_reducible refine ex_wx ?_ _) | (with_reducible refine ex_drew ?_) | (with_reducible refine ex_alloc ?_ _)))) rfl rfl rfl (sld_one z (by (try show Ex _ _); repeat (first | (with_reducible exact ex_refl _) | (with_reducible assumption) | (with_reducible refine ex_drewL ?_) | (with_reducible refine ex_appR ?_ _) | (with_reducible refine ex_wx ?_ _) | (with_reducible refine ex_drew ?_) | (with_reducible refine ex_alloc ?_ _))) (by simp [go_sem])) (by simp; omega) (by simp [go_sem] <;> omega) (fun v1 w1 hown1 hbe => ?_); obtain ⟨X1, rfl⟩ := exOf (A := w) (by (try show Ex _ _); repeat (first | (with_reducible exact ex_refl _) | (with_reducible assumption) | (with_reducible refine ex_drewL ?_) | (with_reducible refine ex_appR ?_ _) | (with_reducible refine ex_wx ?_ _) | (with_reducible refine ex_drew ?_) | (with_reducible refine ex_alloc ?_ _))) hbe) | (go_at_call 65; refine (revd_any (out ++ [z]) _ _ hown1 (by simp; omega)).mono ?_; rintro e w1 ⟨rfl, hown2, hbe⟩; obtain ⟨X2, rfl⟩ := exOf (A := w) (by (try show Ex _ _); repeat (first | (with_reducible exact ex_refl _) | (with_reducible assumption) | (with_reducible refine ex_drewL ?_) | (with_reducible refine ex_appR ?_ _) | (with_reducible refine ex_wx ?_ _) | (with_reducible refine ex_drew ?_) | (with_reducible refine ex_alloc ?_ _))) hbe))
        have hr2 : r = (out ++ [z]).reverse := by rw [HR2.out]; simp
        rw [hr2]
        exact bodyPost_ret (by simp [results, Tryd.results19]) rfl ⟨_, rfl, hown2, (by (try show Ex _ _); repeat (first | (with_reducible exact ex_refl _) | (with_reducible assumption) | (with_reducible refine ex_drewL ?_) | (with_reducible refine ex_appR ?_ _) | (with_reducible refine ex_wx ?_ _) | (with_reducible refine ex_drew ?_) | (with_reducible refine ex_alloc ?_ _)))⟩
      · go_wp2_with (go_at_call 65; refine (revd_any out _ _ hown (by omega)).mono ?_; rintro e w1 ⟨rfl, hown2, hbe⟩; obtain ⟨X2, rfl⟩ := exOf (A := w) (by (try show Ex _ _); repeat (first | (with_reducible exact ex_refl _) | (with_reducible assumption) | (with_reducible refine ex_drewL ?_) | (with_reducible refine ex_appR ?_ _) | (with_reducible refine ex_wx ?_ _) | (with_reducible refine ex_drew ?_) | (with_reducible refine ex_alloc ?_ _))) hbe)
        have hr2 : r = out.reverse := by rw [HR2.out]; simp
        rw [hr2]
        exact bodyPost_ret (by simp [results, Tryd.results19]) rfl ⟨_, rfl, hown2, (by (try show Ex _ _); repeat (first | (with_reducible exact ex_refl _) | (with_reducible assumption) | (with_reducible refine ex_drewL ?_) | (with_reducible refine ex_appR ?_ _) | (with_reducible refine ex_wx ?_ _) | (with_reducible refine ex_drew ?_) | (with_reducible refine ex_alloc ?_ _)))⟩
end Go.Proofs.YtbobamifpjlmiaaDoor
