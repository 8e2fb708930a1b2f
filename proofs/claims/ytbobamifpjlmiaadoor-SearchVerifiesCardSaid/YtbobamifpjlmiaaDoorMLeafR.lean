import Derived.Test.YtbobamifpjlmiaaDoorMTwo
import Derived.Test.YtbobamifpjlmiaaDoorMBits

/- The document's leaf. -/
set_option linter.unusedSimpArgs false
set_option linter.unusedVariables false
set_option maxRecDepth 20000
namespace Go.Proofs.YtbobamifpjlmiaaDoor
open Go.RowKit
@[go_sem high] theorem conv_su8 (s : ByteArray) (w : World) : (convert 9 38 (.string s)).run Tryd.prog w = .ok (.slice (some ⟨w.heap.size, 0, none⟩) s.size (grownCap w s.size 0 5))
      (w.drew.alloc (.cells (bytesRow s (grownCap w s.size 0 5)) 5 ((bytesRow s (grownCap w s.size 0 5)).size, (bytesRow s (grownCap w s.size 0 5)).size + 1))) :=
  run_bytes_of_string w _ _ 5 s Tryd.underlying9 Tryd.underlying38 Tryd.underlying5
theorem bytesRow_at (s : ByteArray) (cap j : Nat) (hj : j < s.data.toList.length) : (bytesRow s cap)[j]? = some (B (gF s.data.toList j)) := by
  unfold bytesRow gF
  have hj2 : j < s.data.size := by simpa using hj
  rw [Array.getElem?_append_left (by simpa using hj2), List.getD_eq_getElem?_getD, Array.getElem?_toList, Array.getElem?_map, Array.getElem?_eq_getElem hj2]
  rfl
theorem sls_str {w w' : World} {g c : Nat} {s : ByteArray} {t : TypeId} {fr : Nat × Nat} (k : Ex (w.alloc (.cells (bytesRow s c) t fr)) w') (hg : g = w.heap.size) (hc : s.size ≤ c) (hcm : c ≤ maxLen) : SlS w' (.slice (some ⟨g, 0, none⟩) s.size c) s.data.toList := by
  subst hg
  refine ⟨_, c, by rw [str_len], by rw [str_len]; exact hc, hcm, SlL.ex (sll_block (heap_alloc_new _ _) fun j hj => bytesRow_at s c j hj) k⟩
theorem SlS.take {w : World} {ad : Addr} {n c : Nat} {l : List UInt8} (h : SlS w (.slice (some ad) n c) l) (k : Nat) (hk : k ≤ n) : SlS w (.slice (some ad) k c) (l.take k) := by
  obtain ⟨ad', c', h1, h2, h3, h4⟩ := h.out
  cases h1
  refine ⟨_, _, by rw [List.length_take, Nat.min_eq_left hk], by rw [List.length_take]; omega, h3, ?_⟩
  rcases h4.out with h | ⟨g, off, h5, h6, h7⟩
  · exact ⟨.inl (by rw [List.length_take]; omega)⟩
  · refine ⟨.inr ⟨g, off, h5, h6, fun j hj => ?_⟩⟩
    rw [List.length_take] at hj
    rw [h7 j (by omega)]
    unfold gF
    rw [List.getD_eq_getElem?_getD, List.getD_eq_getElem?_getD, List.getElem?_take, if_pos (by omega)]
set_option maxHeartbeats 1000000 in
theorem some_any (s : ByteArray) (w : World) (hs : s.size ≤ 100000) : Calls Tryd.prog 87 #[.string s] w (PostL w (someL s)) := by
  have c1 := grownCap_ge w s.size 0 5
  have c2 := grownCap_le_maxLen w s.size 0 5 (by unfold maxLen; omega)
  generalize hc : grownCap w s.size 0 5 = c at c1 c2
  by_cases h : s.size ≤ 65535
  · have e1 : ¬ (65535 : Int) < s.size := by omega
    have e2 : min s.size 65535 = s.size := by omega
    go_enter Tryd.func87, Tryd.ntmps87
    go_wp2_with (first | (go_at_call 89; (refine (refhigh s.size 2 _ (by omega) (by omega) (by omega)).mono ?_); rintro e w2 ⟨v2, rfl, hA, XA, rfl⟩; (try simp only [wx_wx, wx_drew] at hA)) | (go_at_call 86; (refine (refboth _ (hA.ex (by (try show Ex _ _); repeat (first | (with_reducible exact ex_refl _) | (with_reducible assumption) | (with_reducible refine ex_drewL ?_) | (with_reducible refine ex_appR ?_ _) | (with_reducible refine ex_wx ?_ _) | (with_reducible refine ex_drew ?_) | (with_reducible refine ex_alloc ?_ _)))) (sls_str (by (try show Ex _ _); repeat (first | (with_reducible exact ex_refl _) | (with_reducible assumption) | (with_reducible refine ex_drewL ?_) | (with_reducible refine ex_appR ?_ _) | (with_reducible refine ex_wx ?_ _) | (with_reducible refine ex_drew ?_) | (with_reducible refine ex_alloc ?_ _))) (by simp [go_sem]) c1 c2) (by simp [hiL_len, str_len]; omega) (by simp [hiL_len]; omega)).mono ?_); rintro e w2 ⟨v3, rfl, hB, XB, rfl⟩; (try simp only [wx_wx, wx_drew] at hB)))
    go_ret
    refine ⟨_, rfl, ?_, (by (try show Ex _ _); repeat (first | (with_reducible exact ex_refl _) | (with_reducible assumption) | (with_reducible refine ex_drewL ?_) | (with_reducible refine ex_appR ?_ _) | (with_reducible refine ex_wx ?_ _) | (with_reducible refine ex_drew ?_) | (with_reducible refine ex_alloc ?_ _)))⟩
    unfold someL
    rw [e2, List.take_of_length_le (by rw [str_len]; exact h)]
    exact hB
  · have e1 : (65535 : Int) < s.size := by omega
    have e2 : min s.size 65535 = 65535 := by omega
    have e3 : (65535 : Int) ≤ c := by omega
    go_enter Tryd.func87, Tryd.ntmps87
    go_wp2_with (first | (go_at_call 89; (refine (refhigh 65535 2 _ (by omega) (by omega) (by omega)).mono ?_); rintro e w2 ⟨v2, rfl, hA, XA, rfl⟩; (try simp only [wx_wx, wx_drew] at hA)) | (go_at_call 86; (refine (refboth _ (hA.ex (by (try show Ex _ _); repeat (first | (with_reducible exact ex_refl _) | (with_reducible assumption) | (with_reducible refine ex_drewL ?_) | (with_reducible refine ex_appR ?_ _) | (with_reducible refine ex_wx ?_ _) | (with_reducible refine ex_drew ?_) | (with_reducible refine ex_alloc ?_ _)))) ((sls_str (by (try show Ex _ _); repeat (first | (with_reducible exact ex_refl _) | (with_reducible assumption) | (with_reducible refine ex_drewL ?_) | (with_reducible refine ex_appR ?_ _) | (with_reducible refine ex_wx ?_ _) | (with_reducible refine ex_drew ?_) | (with_reducible refine ex_alloc ?_ _))) (by simp [go_sem]) c1 c2).take 65535 (by omega)) (by simp [hiL_len]; omega) (by simp [hiL_len]; omega)).mono ?_); rintro e w2 ⟨v3, rfl, hB, XB, rfl⟩; (try simp only [wx_wx, wx_drew] at hB)))
    go_ret
    refine ⟨_, rfl, ?_, (by (try show Ex _ _); repeat (first | (with_reducible exact ex_refl _) | (with_reducible assumption) | (with_reducible refine ex_drewL ?_) | (with_reducible refine ex_appR ?_ _) | (with_reducible refine ex_wx ?_ _) | (with_reducible refine ex_drew ?_) | (with_reducible refine ex_alloc ?_ _)))⟩
    unfold someL
    rw [e2]
    exact hB
abbrev wE (w : World) (x y : ByteArray) : World := w.alloc (.cells #[.string x, .string y] 80)
set_option maxHeartbeats 1000000 in
theorem refsleaf_any (p : Pr) (w : World) (h1 : p.1.size ≤ 100000) (h2 : p.2.size ≤ 100000) : Calls Tryd.prog 54 #[.agg (PC p)] w (PostL w (leafL p)) := by
  obtain ⟨x, y⟩ := p
  unfold PC
  go_enter Tryd.func54, Tryd.ntmps54
  go_wp2
  have tok1 : True := trivial
  have L1 := leaf_len x
  have L2 := leaf_len y
  refine wp_region_two (wE w x y) [.look 1, .look 2, .look 5, .look 6, .two 0 3, .eff 4, .eff 7, .eff 8, .look 9] (by (try show Ex _ _); repeat (first | (with_reducible exact ex_refl _) | (with_reducible assumption) | (with_reducible refine ex_drewL ?_) | (with_reducible refine ex_appR ?_ _) | (with_reducible refine ex_wx ?_ _) | (with_reducible refine ex_drew ?_) | (with_reducible refine ex_alloc ?_ _))) (by kernel_rfl) (by kernel_rfl) (fun _ _ d _ _ h => by cases d <;> exact h) ?_
  simp only [List.map_cons, List.map_nil, ixStp, nth]
  repeat (first | ((with_reducible refine wpTwo_look ?_); go_big_quiet_step (fail); (try (with_reducible refine wpQuiet_nil ?_))) | (with_reducible refine wpTwo_eff ?_) | ((with_reducible refine effT_F ?_ ?_); (focus rfl); go_simp) | ((with_reducible refine effT_T ?_ ?_); (focus rfl); (try dsimp only); go_wp2_with (first | (go_at_call 87; (with_reducible refine (some_any x _ h1).mono ?_); rintro e w2 ⟨v2, rfl, hA, XA, rfl⟩; (try simp only [wx_wx, wx_drew] at hA)) | (go_at_call 86; have _t := tok1; clear tok1; (refine (refboth _ (sls_one 0 (by (try show Ex _ _); repeat (first | (with_reducible exact ex_refl _) | (with_reducible assumption) | (with_reducible refine ex_drewL ?_) | (with_reducible refine ex_appR ?_ _) | (with_reducible refine ex_wx ?_ _) | (with_reducible refine ex_drew ?_) | (with_reducible refine ex_alloc ?_ _))) (by simp [go_sem]) (by rfl)) (hA.ex (by (try show Ex _ _); repeat (first | (with_reducible exact ex_refl _) | (with_reducible assumption) | (with_reducible refine ex_drewL ?_) | (with_reducible refine ex_appR ?_ _) | (with_reducible refine ex_wx ?_ _) | (with_reducible refine ex_drew ?_) | (with_reducible refine ex_alloc ?_ _)))) (by simp; omega) (by simp; omega)).mono ?_); rintro e w2 ⟨v3, rfl, hB, XB, rfl⟩; (try simp only [wx_wx, wx_drew] at hB)) | (go_at_call 87; (with_reducible refine (some_any y _ h2).mono ?_); rintro e w2 ⟨v4, rfl, hC, XC, rfl⟩; (try simp only [wx_wx, wx_drew] at hC)) | (go_at_call 86; (refine (refboth _ (hB.ex (by (try show Ex _ _); repeat (first | (with_reducible exact ex_refl _) | (with_reducible assumption) | (with_reducible refine ex_drewL ?_) | (with_reducible refine ex_appR ?_ _) | (with_reducible refine ex_wx ?_ _) | (with_reducible refine ex_drew ?_) | (with_reducible refine ex_alloc ?_ _)))) (hC.ex (by (try show Ex _ _); repeat (first | (with_reducible exact ex_refl _) | (with_reducible assumption) | (with_reducible refine ex_drewL ?_) | (with_reducible refine ex_appR ?_ _) | (with_reducible refine ex_wx ?_ _) | (with_reducible refine ex_drew ?_) | (with_reducible refine ex_alloc ?_ _)))) (by simp; omega) (by simp; omega)).mono ?_); rintro e w2 ⟨v5, rfl, hD, XD, rfl⟩; (try simp only [wx_wx, wx_drew] at hD))); refine mixQ_mk (by (try show Ex _ _); repeat (first | (with_reducible exact ex_refl _) | (with_reducible assumption) | (with_reducible refine ex_drewL ?_) | (with_reducible refine ex_appR ?_ _) | (with_reducible refine ex_wx ?_ _) | (with_reducible refine ex_drew ?_) | (with_reducible refine ex_alloc ?_ _))) ?_))
  all_goals (with_reducible refine wpTwo_two ?_ ?_)
  all_goals repeat (first | ((with_reducible refine wpTwo_look ?_); go_big_quiet_step (fail); (try (with_reducible refine wpQuiet_nil ?_))) | (with_reducible refine wpTwo_eff ?_) | ((with_reducible refine effT_F ?_ ?_); (focus rfl); go_simp) | ((with_reducible refine effT_T ?_ ?_); (focus rfl); (try dsimp only); go_wp2_with (first | (go_at_call 87; (with_reducible refine (some_any x _ h1).mono ?_); rintro e w2 ⟨v2, rfl, hA, XA, rfl⟩; (try simp only [wx_wx, wx_drew] at hA)) | (go_at_call 86; have _t := tok1; clear tok1; (refine (refboth _ (sls_one 0 (by (try show Ex _ _); repeat (first | (with_reducible exact ex_refl _) | (with_reducible assumption) | (with_reducible refine ex_drewL ?_) | (with_reducible refine ex_appR ?_ _) | (with_reducible refine ex_wx ?_ _) | (with_reducible refine ex_drew ?_) | (with_reducible refine ex_alloc ?_ _))) (by simp [go_sem]) (by rfl)) (hA.ex (by (try show Ex _ _); repeat (first | (with_reducible exact ex_refl _) | (with_reducible assumption) | (with_reducible refine ex_drewL ?_) | (with_reducible refine ex_appR ?_ _) | (with_reducible refine ex_wx ?_ _) | (with_reducible refine ex_drew ?_) | (with_reducible refine ex_alloc ?_ _)))) (by simp; omega) (by simp; omega)).mono ?_); rintro e w2 ⟨v3, rfl, hB, XB, rfl⟩; (try simp only [wx_wx, wx_drew] at hB)) | (go_at_call 87; (with_reducible refine (some_any y _ h2).mono ?_); rintro e w2 ⟨v4, rfl, hC, XC, rfl⟩; (try simp only [wx_wx, wx_drew] at hC)) | (go_at_call 86; (refine (refboth _ (hB.ex (by (try show Ex _ _); repeat (first | (with_reducible exact ex_refl _) | (with_reducible assumption) | (with_reducible refine ex_drewL ?_) | (with_reducible refine ex_appR ?_ _) | (with_reducible refine ex_wx ?_ _) | (with_reducible refine ex_drew ?_) | (with_reducible refine ex_alloc ?_ _)))) (hC.ex (by (try show Ex _ _); repeat (first | (with_reducible exact ex_refl _) | (with_reducible assumption) | (with_reducible refine ex_drewL ?_) | (with_reducible refine ex_appR ?_ _) | (with_reducible refine ex_wx ?_ _) | (with_reducible refine ex_drew ?_) | (with_reducible refine ex_alloc ?_ _)))) (by simp; omega) (by simp; omega)).mono ?_); rintro e w2 ⟨v5, rfl, hD, XD, rfl⟩; (try simp only [wx_wx, wx_drew] at hD))); refine mixQ_mk (by (try show Ex _ _); repeat (first | (with_reducible exact ex_refl _) | (with_reducible assumption) | (with_reducible refine ex_drewL ?_) | (with_reducible refine ex_appR ?_ _) | (with_reducible refine ex_wx ?_ _) | (with_reducible refine ex_drew ?_) | (with_reducible refine ex_alloc ?_ _))) ?_))
  all_goals (with_reducible refine wpTwo_nil ?_)
  all_goals
    go_wp2
    go_ret
    refine ⟨_, rfl, ?_, (by (try show Ex _ _); repeat (first | (with_reducible exact ex_refl _) | (with_reducible assumption) | (with_reducible refine ex_drewL ?_) | (with_reducible refine ex_appR ?_ _) | (with_reducible refine ex_wx ?_ _) | (with_reducible refine ex_drew ?_) | (with_reducible refine ex_alloc ?_ _)))⟩
    unfold leafL
    exact hD.ex (by (try show Ex _ _); repeat (first | (with_reducible exact ex_refl _) | (with_reducible assumption) | (with_reducible refine ex_drewL ?_) | (with_reducible refine ex_appR ?_ _) | (with_reducible refine ex_wx ?_ _) | (with_reducible refine ex_drew ?_) | (with_reducible refine ex_alloc ?_ _)))
end Go.Proofs.YtbobamifpjlmiaaDoor

/- Halves; the document's tops and root of pairs. -/
set_option linter.unusedSimpArgs false
set_option linter.unusedVariables false
set_option maxRecDepth 20000
namespace Go.Proofs.YtbobamifpjlmiaaDoor
open Go.RowKit
theorem half_any (m : Nat) (w : World) (h2 : 2 ≤ m) (hm : m ≤ 1000) : Calls Tryd.prog 96 #[I m] w fun e w' => e = .returned (I (splitN m)) ∧ w = w' := by
  obtain hm2 : m ≤ 1000 := hm
  go_enter Tryd.func96, Tryd.ntmps96
  go_wp2
  go_loopw [3] (fun i wr => ∃ q : Nat, 1 ≤ q ∧ q < m ∧ i = I q ∧ Hid (∃ j, q = 2 ^ j) ∧ wr = w) (fun i _ => m - (intOf i).toNat)
  case atStart => exact ⟨1, by omega, by omega, rfl, Lib.hid ⟨0, rfl⟩, rfl⟩
  case round =>
    obtain ⟨q, hq1, hq2, rfl, hj, rfl⟩ := hrel
    by_cases hlt : 2 * q < m
    · have hlt' : 2 * (q : Int) < m := by omega
      have hlt2 : (q : Int) * 2 < m := by omega
      go_wp2
      refine ⟨⟨2 * q, by omega, hlt, by go_num, ?_, by trivial⟩, by simp [intOf]; omega⟩
      obtain ⟨j, rfl⟩ := hj.out
      exact Lib.hid ⟨j + 1, by rw [Nat.pow_succ]; omega⟩
    · have hlt' : ¬ 2 * (q : Int) < m := by omega
      have hlt2 : ¬ (q : Int) * 2 < m := by omega
      go_wp2
      go_ret
      refine ⟨?_, by trivial⟩
      obtain ⟨j, rfl⟩ := hj.out
      rw [split_uniq hq2 (by omega)]
      rfl
theorem refhalf_any (m : Nat) (w : World) (h2 : 2 ≤ m) (hm : m ≤ 1000) : Calls Tryd.prog 98 #[I m] w fun e w' => e = .returned (I (splitN m)) ∧ w = w' := by
  obtain hm2 : m ≤ 1000 := hm
  go_enter Tryd.func98, Tryd.ntmps98
  go_wp2
  go_loopw [3] (fun i wr => ∃ q : Nat, 1 ≤ q ∧ q < m ∧ i = I q ∧ Hid (∃ j, q = 2 ^ j) ∧ wr = w) (fun i _ => m - (intOf i).toNat)
  case atStart => exact ⟨1, by omega, by omega, rfl, Lib.hid ⟨0, rfl⟩, rfl⟩
  case round =>
    obtain ⟨q, hq1, hq2, rfl, hj, rfl⟩ := hrel
    by_cases hlt : 2 * q < m
    · have hlt' : 2 * (q : Int) < m := by omega
      have hlt2 : (q : Int) * 2 < m := by omega
      go_wp2
      refine ⟨⟨2 * q, by omega, hlt, by go_num, ?_, by trivial⟩, by simp [intOf]; omega⟩
      obtain ⟨j, rfl⟩ := hj.out
      exact Lib.hid ⟨j + 1, by rw [Nat.pow_succ]; omega⟩
    · have hlt' : ¬ 2 * (q : Int) < m := by omega
      have hlt2 : ¬ (q : Int) * 2 < m := by omega
      go_wp2
      go_ret
      refine ⟨?_, by trivial⟩
      obtain ⟨j, rfl⟩ := hj.out
      rw [split_uniq hq2 (by omega)]
      rfl
theorem topP_one (p : Pr) : topP [p] = leafP p := by unfold topP; rw [if_neg (by simp)]; exact root_one _
theorem topP_two {l : List Pr} (h : 2 ≤ l.length) : topP l = nodeD (topP (l.take (splitN l.length))) (topP (l.drop (splitN l.length))) := by
  have h1 := split_lt h
  have h2 := split_pos l.length
  unfold topP
  rw [if_neg (by omega), if_neg (by rw [List.length_take]; omega), if_neg (by rw [List.length_drop]; omega), root_two (by simpa using h), List.length_map, List.map_take, List.map_drop]
def smallP (l : List Pr) : Prop := ∀ p ∈ l, p.1.size ≤ 100000 ∧ p.2.size ≤ 100000
theorem SlP.dropI {w : World} {g off : Nat} {l : List Pr} (h : SlP w (some ⟨g, off, none⟩) l) (k : Nat) : SlP w (some ⟨g, off + k * 2, none⟩) (l.drop k) := h.drop k
theorem leafL_len (p : Pr) : (leafL p).length ≤ 1000000 := by
  unfold leafL
  rw [List.length_append, List.length_append, leaf_len, leaf_len]
  simp; omega
set_option maxHeartbeats 1000000 in
theorem tops_any (N : Nat) : ∀ (l : List Pr) (a : Option Addr) (c : Nat) (w : World), l.length = N → N ≤ 1000 → N ≤ c → c ≤ maxLen → SlP w a l → smallP l →
    Calls Tryd.prog 74 #[.slice a N c] w (Post w (.agg (rowB 32 (dF (topP l))))) := by
  induction N using Nat.strongRecOn with
  | ind N ih =>
    intro l a c w hl hN hc hcm hs hsm
    unfold maxLen at hcm
    rcases Nat.lt_or_ge N 2 with h2 | h2
    · have h01 : N = 0 ∨ N = 1 := by omega
      rcases h01 with rfl | rfl
      · obtain rfl := List.eq_nil_of_length_eq_zero hl
        rw [show topP [] = zeroD from rfl, row_zero]
        clear ih
        go_enter Tryd.func74, Tryd.ntmps74
        go_wp2
        exact ret_row (cs := rowB 32 fun _ => 0) Tryd.results74 Tryd.underlying26 rfl info_id rfl (by simp [go_sem]) rfl (post_mk rfl (by (try show Ex _ _); repeat (first | (with_reducible exact ex_refl _) | (with_reducible assumption) | (with_reducible refine ex_drewL ?_) | (with_reducible refine ex_appR ?_ _) | (with_reducible refine ex_wx ?_ _) | (with_reducible refine ex_drew ?_) | (with_reducible refine ex_alloc ?_ _))))
      · obtain ⟨x, rfl⟩ := List.length_eq_one_iff.1 hl
        rw [topP_one]
        have hx := hsm x (by simp)
        obtain ⟨g, off, rfl, hg, _, h1, h3⟩ := hs.row (i := 0) (by simp)
        rw [show prAt [x] 0 = x from rfl] at h1 h3
        clear ih hsm hs
        rw [Nat.zero_mul, Nat.add_zero] at h1 h3
        have HL := Lib.hid (fun w' => refsleaf_any x w' hx.1 hx.2)
        have HLL := Lib.hid (leafL_len x)
        have HP : Hid (sumD (leafL x) = leafP x) := Lib.hid rfl
        generalize leafP x = z at HP ⊢
        generalize leafL x = L at HL HLL HP
        clear hx
        unfold PC at HL
        obtain ⟨s, t⟩ := x
        simp only at h1 h3 HL
        go_enter Tryd.func74, Tryd.ntmps74
        go_wp2_with (first | (go_at_call 54; (with_reducible refine (HL.out _).mono ?_); rintro e w2 ⟨v, rfl, hsl, X, rfl⟩; (try simp only [wx_wx, wx_drew] at hsl)) | (go_at_call 53; refine (refsum_slt (hsl.ex (by (try show Ex _ _); repeat (first | (with_reducible exact ex_refl _) | (with_reducible assumption) | (with_reducible refine ex_drewL ?_) | (with_reducible refine ex_appR ?_ _) | (with_reducible refine ex_wx ?_ _) | (with_reducible refine ex_drew ?_) | (with_reducible refine ex_alloc ?_ _)))).slt (by have := HLL.out; omega)).mono ?_; rintro e w2 ⟨rfl, X2, rfl⟩; (try rw [HP.out])))
        exact ret_row (cs := rowB 32 (dF z)) Tryd.results74 Tryd.underlying26 rfl info_id rfl (by simp [go_sem]) rfl (post_mk rfl (by (try show Ex _ _); repeat (first | (with_reducible exact ex_refl _) | (with_reducible assumption) | (with_reducible refine ex_drewL ?_) | (with_reducible refine ex_appR ?_ _) | (with_reducible refine ex_wx ?_ _) | (with_reducible refine ex_drew ?_) | (with_reducible refine ex_alloc ?_ _))))
    · have hk1 := split_lt (n := N) h2
      have hk2 := split_pos N
      have hr := topP_two (l := l) (by omega)
      rw [hl] at hr
      rw [hr]
      clear hr
      obtain ⟨g, off, rfl, hg, hcell⟩ := hs.pos (by omega)
      clear hcell
      have HT : Hid (∀ w', Ex w w' → Calls Tryd.prog 74 #[.slice (some ⟨g, off, none⟩) (splitN N) c] w' (Post w' (.agg (rowB 32 (dF (topP (l.take (splitN N)))))))) :=
        Lib.hid fun w' k => ih _ hk1 _ _ c w' (by rw [List.length_take]; omega) (by omega) (by omega) (by unfold maxLen; omega) ((hs.take _).ex k) (fun p hp => hsm p (List.mem_of_mem_take hp))
      have HD : Hid (∀ w', Ex w w' → Calls Tryd.prog 74 #[.slice (some ⟨g, off + splitN N * 2, none⟩) (N - splitN N) (c - splitN N)] w' (Post w' (.agg (rowB 32 (dF (topP (l.drop (splitN N)))))))) :=
        Lib.hid fun w' k => ih _ (by omega) _ _ _ w' (by rw [List.length_drop]; omega) (by omega) (by omega) (by unfold maxLen; omega) ((hs.drop _).ex k) (fun p hp => hsm p (List.mem_of_mem_drop hp))
      have HJ : Hid (∀ w', Calls Tryd.prog 56 #[.agg (rowB 32 (dF (topP (l.take (splitN N))))), .agg (rowB 32 (dF (topP (l.drop (splitN N)))))] w' (PostL w' (1 :: (bytesD (topP (l.take (splitN N))) ++ bytesD (topP (l.drop (splitN N))))))) :=
        Lib.hid fun w' => refjoin_any _ _ w'
      have HP : Hid (sumD (1 :: (bytesD (topP (l.take (splitN N))) ++ bytesD (topP (l.drop (splitN N))))) = nodeD (topP (l.take (splitN N))) (topP (l.drop (splitN N)))) := Lib.hid rfl
      have HLL : Hid ((1 :: (bytesD (topP (l.take (splitN N))) ++ bytesD (topP (l.drop (splitN N))))).length ≤ 1000) := Lib.hid (by simp [bytesD_len])
      have HS := Lib.hid (fun w => refhalf_any N w h2 hN)
      generalize nodeD (topP (l.take (splitN N))) (topP (l.drop (splitN N))) = z at HP ⊢
      generalize 1 :: (bytesD (topP (l.take (splitN N))) ++ bytesD (topP (l.drop (splitN N)))) = L at HJ HP HLL
      generalize topP (l.take (splitN N)) = x at HT HJ
      generalize topP (l.drop (splitN N)) = y at HD HJ
      generalize splitN N = k at hk1 hk2 HT HD HS
      have e0 : ((N : Int) == 0) = false := beq_eq_false_iff_ne.2 (by omega)
      have e1 : ((N : Int) == 1) = false := beq_eq_false_iff_ne.2 (by omega)
      have e2 : (k : Int) ≤ N := by omega
      have e3 : (k : Int) ≤ c := by omega
      have e4 : ¬ c = k := by omega
      have e5 : (N : Int) ≤ c := by omega
      clear ih hs hl h2 hN hsm
      go_enter Tryd.func74, Tryd.ntmps74
      go_wp2_with (go_at_call 98; refine (HS.out _).mono ?_; rintro e w' ⟨rfl, rfl⟩)
      refine wp_region_seqA (w) [(0, true), (1, true), (2, true), (4, true), (5, true), (6, true), (3, false), (7, false), (8, false), (9, false), (10, false)] (by (try show Ex _ _); repeat (first | (with_reducible exact ex_refl _) | (with_reducible assumption) | (with_reducible refine ex_drewL ?_) | (with_reducible refine ex_appR ?_ _) | (with_reducible refine ex_wx ?_ _) | (with_reducible refine ex_drew ?_) | (with_reducible refine ex_alloc ?_ _))) (by kernel_rfl) (by kernel_rfl) (fun _ _ d _ _ h => by cases d <;> exact h) ?_
      simp only [List.map_cons, List.map_nil, nth]
      repeat (first | ((with_reducible refine wpSeq_look ?_); go_big_quiet_step (fail); (with_reducible refine wpQuiet_nil ?_)) | ((with_reducible refine wpSeq_effF ?_ ?_); (focus rfl); go_simp) | ((with_reducible refine wpSeq_eff ?_ ?_); (focus rfl); (try dsimp only); go_wp2_with (first | (go_at_call 74; (with_reducible refine (HT.out _ (by (try show Ex _ _); repeat (first | (with_reducible exact ex_refl _) | (with_reducible assumption) | (with_reducible refine ex_drewL ?_) | (with_reducible refine ex_appR ?_ _) | (with_reducible refine ex_wx ?_ _) | (with_reducible refine ex_drew ?_) | (with_reducible refine ex_alloc ?_ _)))).mono ?_); rintro e w2 ⟨rfl, X, rfl⟩) | (go_at_call 74; (with_reducible refine (HD.out _ (by (try show Ex _ _); repeat (first | (with_reducible exact ex_refl _) | (with_reducible assumption) | (with_reducible refine ex_drewL ?_) | (with_reducible refine ex_appR ?_ _) | (with_reducible refine ex_wx ?_ _) | (with_reducible refine ex_drew ?_) | (with_reducible refine ex_alloc ?_ _)))).mono ?_); rintro e w2 ⟨rfl, X, rfl⟩) | (go_at_call 56; (with_reducible refine (HJ.out _).mono ?_); rintro e w2 ⟨v, rfl, hsl, X, rfl⟩; (try simp only [wx_wx, wx_drew] at hsl)) | (go_at_call 53; refine (refsum_slt (hsl.ex (by (try show Ex _ _); repeat (first | (with_reducible exact ex_refl _) | (with_reducible assumption) | (with_reducible refine ex_drewL ?_) | (with_reducible refine ex_appR ?_ _) | (with_reducible refine ex_wx ?_ _) | (with_reducible refine ex_drew ?_) | (with_reducible refine ex_alloc ?_ _)))).slt (by have := HLL.out; omega)).mono ?_; rintro e w2 ⟨rfl, X2, rfl⟩; (try rw [HP.out]))); refine mixQ_mk (by (try show Ex _ _); repeat (first | (with_reducible exact ex_refl _) | (with_reducible assumption) | (with_reducible refine ex_drewL ?_) | (with_reducible refine ex_appR ?_ _) | (with_reducible refine ex_wx ?_ _) | (with_reducible refine ex_drew ?_) | (with_reducible refine ex_alloc ?_ _))) ?_))
      refine wpSeq_nil ?_
      go_wp2
      exact ret_row (cs := rowB 32 (dF z)) Tryd.results74 Tryd.underlying26 rfl info_id rfl (by simp [go_sem]) rfl (post_mk rfl (by (try show Ex _ _); repeat (first | (with_reducible exact ex_refl _) | (with_reducible assumption) | (with_reducible refine ex_drewL ?_) | (with_reducible refine ex_appR ?_ _) | (with_reducible refine ex_wx ?_ _) | (with_reducible refine ex_drew ?_) | (with_reducible refine ex_alloc ?_ _))))
end Go.Proofs.YtbobamifpjlmiaaDoor
