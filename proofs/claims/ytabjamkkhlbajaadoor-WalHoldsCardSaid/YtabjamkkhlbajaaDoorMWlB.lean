import Derived.Test.YtabjamkkhlbajaaDoorMWlA
import Derived.Test.YtabjamkkhlbajaaDoorMDkM

/- The log: digests, how many sectors, places, areas. -/
set_option linter.unusedSimpArgs false
set_option linter.unusedVariables false
set_option linter.unnecessarySimpa false
set_option maxRecDepth 20000
namespace Go.Proofs.YtabjamkkhlbajaaDoor
open Go.RowKit
/-- The short digest. -/
def HW (l : By) : By := (bytesD (sumD l)).take 4
theorem HW_len (l : By) : (HW l).length = 4 := by unfold HW; rw [List.length_take, bytesD_len]; rfl
theorem HW_get (l : By) (i : Nat) (hi : i < 4) : gF (HW l) i = dF (sumD l) i := by
  have h1 : (bytesD (sumD l))[i]? = some (dF (sumD l) i) := by
    unfold bytesD
    rw [List.getElem?_map, List.getElem?_range (by omega)]; rfl
  unfold gF HW
  rw [List.getD_eq_getElem?_getD, List.getElem?_take_of_lt hi, h1, Option.getD_some]
theorem HW_row (l : By) : rowB 4 (dF (sumD l)) = rowB 4 (gF (HW l)) := rowB_congr fun i hi => (HW_get l i hi).symm
def arr4Raw (P : Program) (t : TypeId) (v : Value) (w : World) : Result Value := (Instr.arrayAt t v).run P w
@[go_sem] theorem arrayAt4 (a : Option Addr) (n c : Nat) (w : World) : (Instr.arrayAt 60 (.slice a n c)).run Tryd.prog w = if 4 ≤ n then .ok (.pointer a) w else arr4Raw Tryd.prog 60 (.slice a n c) w := by
  split
  · exact run_arrayAt w 60 _ 4 a n c Tryd.underlying60 ‹_›
  · rfl
theorem digest1_any {w0 w : World} (G : Glob w0) (k0 : Ex w0 w) {g : Nat} {v : Value} {l : By} (hc : w.cell? ⟨g, 0, none⟩ = some v) (hs : SlT w v l) (hl : l.length ≤ 1000000) :
    Calls Tryd.prog 34 #[.slice (some ⟨g, 0, none⟩) 1 1] w (Post w (.agg (rowB 4 (gF (HW l))))) := by
  have hg := cellW_lt hc
  have HJ : Hid (∀ w', Ex w w' → Calls Tryd.prog 57 #[.slice (some ⟨g, 0, none⟩) 1 1, .slice none 0 0] w' (PostTx w' l)) := Lib.hid fun w' k => join1_any (by obtain ⟨X, rfl⟩ := k; rw [wx_cell _ _ _ hg]; exact hc) (hs.ex k) hl
  have HS : Hid (∀ w' v', Ex w w' → SlT w' v' l → Calls Tryd.prog 56 #[v'] w' (Post w' (.agg (rowB 32 (dF (sumD l)))))) := Lib.hid fun w' v' k h => sum_slt G (ex_trans k0 k) h (by omega)
  have hr := HW_row l
  generalize HW l = hw at hr ⊢
  generalize dF (sumD l) = fs at *
  clear hs hc
  go_enter Tryd.func34, Tryd.ntmps34
  go_wp2_with (first | (go_at_call 57; (with_reducible refine (HJ.out _ (by (try show Ex _ _); with_reducible repeat (first | exact ex_refl _ | assumption | refine ex_drewL ?_ | refine ex_appR ?_ _ | refine ex_wx ?_ _ | refine ex_drew ?_ | refine ex_alloc ?_ _))).mono ?_); rintro e w2 ⟨v2, rfl, hs2, X, rfl⟩; replace hs2 := Lib.hid hs2) | (go_at_call 56; (with_reducible refine (HS.out _ _ (by (try show Ex _ _); with_reducible repeat (first | exact ex_refl _ | assumption | refine ex_drewL ?_ | refine ex_appR ?_ _ | refine ex_wx ?_ _ | refine ex_drew ?_ | refine ex_alloc ?_ _)) hs2.out).mono ?_); rintro e w3 ⟨rfl, X3, rfl⟩))
  exact ret_row (cs := rowB 4 (gF hw)) Tryd.results34 Tryd.underlying60 rfl info_mrk rfl (by first | (simp [go_sem]; done) | (simp [go_sem] <;> (intro h9; exfalso; omega)) | (simp [go_sem] <;> omega)) rfl (post_mk rfl (by (try show Ex _ _); with_reducible repeat (first | exact ex_refl _ | assumption | refine ex_drewL ?_ | refine ex_appR ?_ _ | refine ex_wx ?_ _ | refine ex_drew ?_ | refine ex_alloc ?_ _)))
theorem digest2_any {w0 w : World} (G : Glob w0) (k0 : Ex w0 w) {g : Nat} {v v2 : Value} {l l2 : By} (hc : w.cell? ⟨g, 0, none⟩ = some v) (hc2 : w.cell? ⟨g, 1, none⟩ = some v2) (hs : SlT w v l) (hs2 : SlT w v2 l2) (hl : l.length + l2.length ≤ 1000000) :
    Calls Tryd.prog 34 #[.slice (some ⟨g, 0, none⟩) 2 2] w (Post w (.agg (rowB 4 (gF (HW (l ++ l2)))))) := by
  have hg := cellW_lt hc
  have HJ : Hid (∀ w', Ex w w' → Calls Tryd.prog 57 #[.slice (some ⟨g, 0, none⟩) 2 2, .slice none 0 0] w' (PostTx w' (l ++ l2))) := Lib.hid fun w' k => join2_any (by obtain ⟨X, rfl⟩ := k; rw [wx_cell _ _ _ hg]; exact hc) (by obtain ⟨X, rfl⟩ := k; rw [wx_cell _ _ _ hg]; exact hc2) (hs.ex k) (hs2.ex k) hl
  have hl2 : (l ++ l2).length ≤ 1000000 := by rw [List.length_append]; exact hl
  have HS : Hid (∀ w' v', Ex w w' → SlT w' v' (l ++ l2) → Calls Tryd.prog 56 #[v'] w' (Post w' (.agg (rowB 32 (dF (sumD (l ++ l2))))))) := Lib.hid fun w' v' k h => sum_slt G (ex_trans k0 k) h (by omega)
  generalize l ++ l2 = ll at *
  have hr := HW_row ll
  generalize HW ll = hw at hr ⊢
  generalize dF (sumD ll) = fs at *
  clear hs hc hs2 hc2 hl
  go_enter Tryd.func34, Tryd.ntmps34
  go_wp2_with (first | (go_at_call 57; (with_reducible refine (HJ.out _ (by (try show Ex _ _); with_reducible repeat (first | exact ex_refl _ | assumption | refine ex_drewL ?_ | refine ex_appR ?_ _ | refine ex_wx ?_ _ | refine ex_drew ?_ | refine ex_alloc ?_ _))).mono ?_); rintro e w2 ⟨v2, rfl, hs2, X, rfl⟩; replace hs2 := Lib.hid hs2) | (go_at_call 56; (with_reducible refine (HS.out _ _ (by (try show Ex _ _); with_reducible repeat (first | exact ex_refl _ | assumption | refine ex_drewL ?_ | refine ex_appR ?_ _ | refine ex_wx ?_ _ | refine ex_drew ?_ | refine ex_alloc ?_ _)) hs2.out).mono ?_); rintro e w3 ⟨rfl, X3, rfl⟩))
  exact ret_row (cs := rowB 4 (gF hw)) Tryd.results34 Tryd.underlying60 rfl info_mrk rfl (by first | (simp [go_sem]; done) | (simp [go_sem] <;> (intro h9; exfalso; omega)) | (simp [go_sem] <;> omega)) rfl (post_mk rfl (by (try show Ex _ _); with_reducible repeat (first | exact ex_refl _ | assumption | refine ex_drewL ?_ | refine ex_appR ?_ _ | refine ex_wx ?_ _ | refine ex_drew ?_ | refine ex_alloc ?_ _)))
/-- How many sectors a sheet has: nought where there is none. -/
def secI (n : Int) : Int := if 0 ≤ n ∧ n ≤ 50000 then 1 + (n + 3) / 64 else 0
theorem secI_nat {n : Nat} (h : n ≤ 50000) : secI n = (secs n : Nat) := by
  unfold secI secs
  rw [if_pos (by omega)]
  omega
theorem sectors_any (n : Int) (h1 : -9223372036854775808 ≤ n) (h2 : n < 9223372036854775808) (w : World) : Calls Tryd.prog 10 #[I n] w (Post w (I (secI n))) := by
  unfold secI
  by_cases h : 0 ≤ n ∧ n ≤ 50000
  · rw [if_pos h]
    obtain ⟨a, b⟩ := h
    have hq : Int.tdiv (n + 4 - 1) 64 = (n + 3) / 64 := by rw [Int.tdiv_eq_ediv_of_nonneg (by omega)]; omega
    have e1 : decide (n < 0) = false := decide_eq_false (by omega)
    have e2 : decide (50000 < n) = false := decide_eq_false (by omega)
    go_enter Tryd.func10, Tryd.ntmps10
    go_wp2
    go_ret
    refine post_mk' ?_ (by (try show Ex _ _); with_reducible repeat (first | exact ex_refl _ | assumption | refine ex_drewL ?_ | refine ex_appR ?_ _ | refine ex_wx ?_ _ | refine ex_drew ?_ | refine ex_alloc ?_ _))
    first | rfl | (congr 1; rw [hq])
  · rw [if_neg h]
    by_cases h0 : n < 0
    · have e1 : decide (n < 0) = true := decide_eq_true h0
      clear h
      go_enter Tryd.func10, Tryd.ntmps10
      go_wp2
      go_ret
      exact post_mk' rfl (by (try show Ex _ _); with_reducible repeat (first | exact ex_refl _ | assumption | refine ex_drewL ?_ | refine ex_appR ?_ _ | refine ex_wx ?_ _ | refine ex_drew ?_ | refine ex_alloc ?_ _))
    · have e1 : decide (n < 0) = false := decide_eq_false h0
      have e2 : decide (50000 < n) = true := decide_eq_true (by omega)
      clear h
      go_enter Tryd.func10, Tryd.ntmps10
      go_wp2
      go_ret
      exact post_mk' rfl (by (try show Ex _ _); with_reducible repeat (first | exact ex_refl _ | assumption | refine ex_drewL ?_ | refine ex_appR ?_ _ | refine ex_wx ?_ _ | refine ex_drew ?_ | refine ex_alloc ?_ _))
abbrev U4 (x : Nat) : Value := .int .u32 (x : Int)
/-- A claim's cells. -/
abbrev CR (c : Cm) : Array Value := #[U4 c.turn, U4 c.n, U4 c.side, U4 c.used, U4 c.all, B (gF c.mark 0), B (gF c.mark 1), B (gF c.mark 2), B (gF c.mark 3)]
theorem at_any (c : Cm) (s p : Nat) (hs : s ≤ 1) (hn : c.n ≤ 1000) (hp : p ≤ 1000) (w : World) : Calls Tryd.prog 42 #[.agg (CR c), U4 s, U4 p] w (Post w (I ((2 + (s * c.n + p) : Nat) : Int))) := by
  have hq : s * c.n ≤ 1000 := by
    rcases (show s = 0 ∨ s = 1 by omega) with e | e <;> rw [e] <;> omega
  obtain ⟨q, hqq⟩ : ∃ q, s * c.n = q := ⟨_, rfl⟩
  have hm : ((s : Int) * c.n) = q := by rw [← hqq]; push_cast; rfl
  rw [hqq] at hq ⊢
  clear hqq
  go_enter Tryd.func42, Tryd.ntmps42
  go_wp2
  go_ret
  exact post_mk' (by push_cast; rfl) (by (try show Ex _ _); with_reducible repeat (first | exact ex_refl _ | assumption | refine ex_drewL ?_ | refine ex_appR ?_ _ | refine ex_wx ?_ _ | refine ex_drew ?_ | refine ex_alloc ?_ _))
theorem may_any {w : World} {L : Loc} {d : Dk} (h : DkAt w L d) (n : Int) : Calls Tryd.prog 33 #[PT L.p, I n] w (Post w (.bool (mayI d n))) := by
  have HL := Lib.hid fun w' (k : Ex w w') => len_any (h.ex k)
  unfold mayI
  generalize d.has.length = N at *
  clear h
  by_cases h1 : 4 ≤ n
  · have e1 : decide (4 ≤ n) = true := decide_eq_true h1
    by_cases h2 : n ≤ 1000
    · have e2 : decide (n ≤ 1000) = true := decide_eq_true h2
      go_enter Tryd.func33, Tryd.ntmps33
      go_wp2_with (go_at_call 55; (with_reducible refine (HL.out _ (by (try show Ex _ _); with_reducible repeat (first | exact ex_refl _ | assumption | refine ex_drewL ?_ | refine ex_appR ?_ _ | refine ex_wx ?_ _ | refine ex_drew ?_ | refine ex_alloc ?_ _))).mono ?_); rintro e w2 ⟨rfl, X, rfl⟩)
      go_ret
      exact post_mk' (by simp [e1, e2]) (by (try show Ex _ _); with_reducible repeat (first | exact ex_refl _ | assumption | refine ex_drewL ?_ | refine ex_appR ?_ _ | refine ex_wx ?_ _ | refine ex_drew ?_ | refine ex_alloc ?_ _))
    · have e2 : decide (n ≤ 1000) = false := decide_eq_false h2
      go_enter Tryd.func33, Tryd.ntmps33
      go_wp2
      go_ret
      exact post_mk' (by simp [e1, e2]) (by (try show Ex _ _); with_reducible repeat (first | exact ex_refl _ | assumption | refine ex_drewL ?_ | refine ex_appR ?_ _ | refine ex_wx ?_ _ | refine ex_drew ?_ | refine ex_alloc ?_ _))
  · have e1 : decide (4 ≤ n) = false := decide_eq_false h1
    go_enter Tryd.func33, Tryd.ntmps33
    go_wp2
    go_ret
    exact post_mk' (by simp [e1]) (by (try show Ex _ _); with_reducible repeat (first | exact ex_refl _ | assumption | refine ex_drewL ?_ | refine ex_appR ?_ _ | refine ex_wx ?_ _ | refine ex_drew ?_ | refine ex_alloc ?_ _))
theorem hi4_take (x k : Nat) (hk : k < 4) : (hi4 x).take (k + 1) = (hi4 x).take k ++ [UInt8.ofNat (x / 256 ^ (3 - k))] := by
  match k, hk with
  | 0, _ => rfl
  | 1, _ => rfl
  | 2, _ => rfl
  | 3, _ => simp [hi4]
theorem row_over_takeW (l : By) (n m : Nat) (z : Nat → UInt8) (hn : l.length = n) : Lib.byteCells l = (rowB (n + m) (over z 0 n (gF l))).toList.take (n * 1) := by
  subst hn
  rw [← rowB_list, Nat.mul_one]
  apply List.ext_getElem?
  intro i
  rw [List.getElem?_take, Array.getElem?_toList, Array.getElem?_toList, rowB_get, rowB_get]
  by_cases h : i < l.length
  · rw [if_pos h, if_pos h, if_pos (by omega)]
    unfold over
    simp [h]
  · rw [if_neg h, if_neg h]
/-- Bytes of the call's own. -/
def OwnW (w : World) (Z : Nat) (v : Value) (l : By) : Prop := w.ownsRow Z 5 1 v l.length (Lib.byteCells l)
theorem OwnW.slt {w : World} {Z : Nat} {v : Value} {l : By} (h : OwnW w Z v l) : SlT w v l := owns_slt h
theorem OwnW.ex {w w' : World} {Z : Nat} {v : Value} {l : By} (h : OwnW w Z v l) (k : Ex w w') : OwnW w' Z v l := owns_ex h k
theorem OwnW.le {w : World} {Z Z' : Nat} {v : Value} {l : By} (h : OwnW w Z v l) (hz : Z' ≤ Z) : OwnW w Z' v l := by
  refine ⟨h.1, ?_⟩
  rcases h.2 with h | ⟨g, cap, cur, h1, h2, h3⟩
  · exact Or.inl h
  · exact Or.inr ⟨g, cap, cur, h1, Nat.le_trans hz h2, h3⟩
def PostOw (W : World) (l : By) (e : Ending) (w' : World) : Prop := ∃ v, e = .returned v ∧ OwnW w' W.heap.size v l ∧ ∃ X, w' = wx W X
set_option maxHeartbeats 1000000 in
theorem put32n_in (x : Nat) (hx : x < 4294967296) (w : World) : Calls Tryd.prog 77 #[.slice none 0 0, .int .u32 x, I 4] w (PostOw w ([] ++ hi4 x)) := by
  go_enter Tryd.func77, Tryd.ntmps77
  go_wp2
  go_loopw [7, 8] (fun v i wr => ∃ k : Nat, k ≤ 4 ∧ i = I (8 * (4 - 1 - k : Int)) ∧ Hid (wr.ownsRow w.heap.size 5 1 v (0 + k) (Lib.byteCells (([] : By) ++ (hi4 x).take k))) ∧ Ex w wr) (fun _ i _ => (intOf i + 8).toNat)
  case atStart =>
    refine ⟨0, by omega, by simp, Lib.hid ?_, (by (try show Ex _ _); with_reducible repeat (first | exact ex_refl _ | assumption | refine ex_drewL ?_ | refine ex_appR ?_ _ | refine ex_wx ?_ _ | refine ex_drew ?_ | refine ex_alloc ?_ _))⟩
    rw [List.take_zero, List.append_nil]
    exact owns_new (cap := 4) rfl (Nat.le_refl _) (by omega) (by unfold maxLen; omega) (by simp) rfl
  case round =>
    obtain ⟨k, hk, rfl, hown, X, rfl⟩ := hrel
    by_cases hlt : k < 4
    · have hz := ex_size (show Ex w (wx w X) from ⟨X, rfl⟩)
      have HS := hi4_take x k hlt
      obtain ⟨j, hj⟩ : ∃ j, k + 1 = j := ⟨_, rfl⟩
      rw [hj] at HS
      obtain ⟨b, hb⟩ : ∃ b, UInt8.ofNat (x / 256 ^ (3 - k)) = b := ⟨_, rfl⟩
      rw [hb] at HS
      replace HS := Lib.hid HS
      have HZ : Hid (bn b = ((x / 256 ^ (3 - k) : Nat) : Int) % 256) := Lib.hid (by rw [← hb]; simp [bn])
      have HL : Hid (((hi4 x).take k).length = k) := Lib.hid (by rw [List.length_take, hi4_len]; omega)
      clear hb
      obtain ⟨q, hq⟩ : ∃ q : Int, (8 : Int) * (4 - 1 - k) = q := ⟨_, rfl⟩
      rw [hq]
      rcases (show (k = 0 ∧ q = 24 ∧ j = 1) ∨ (k = 1 ∧ q = 16 ∧ j = 2) ∨ (k = 2 ∧ q = 8 ∧ j = 3) ∨ (k = 3 ∧ q = 0 ∧ j = 4) by omega) with (⟨rfl, rfl, hj2⟩ | ⟨rfl, rfl, hj2⟩ | ⟨rfl, rfl, hj2⟩ | ⟨rfl, rfl, hj2⟩)
      all_goals clear hq hk hlt hj
      all_goals
        go_wp2_with (at_builtin; refine wpAppB _ _ rfl rfl (owns_ex hown.out (by (try show Ex _ _); with_reducible repeat (first | exact ex_refl _ | assumption | refine ex_drewL ?_ | refine ex_appR ?_ _ | refine ex_wx ?_ _ | refine ex_drew ?_ | refine ex_alloc ?_ _))) rfl rfl (sls_one b (by (try show Ex _ _); with_reducible repeat (first | exact ex_refl _ | assumption | refine ex_drewL ?_ | refine ex_appR ?_ _ | refine ex_wx ?_ _ | refine ex_drew ?_ | refine ex_alloc ?_ _)) (by simp [go_sem]) (by have h := HZ.out; simp at h ⊢; omega)) (by rw [List.length_singleton]; omega) (by simp [go_sem] <;> omega) (fun v1 w1 hown1 hbe => ?_))
      all_goals
        refine ⟨⟨j, by omega, by rw [hj2]; rfl, Lib.hid (by rw [HS.out, ← List.append_assoc]; subst hj2; exact hown1), ex_of_below ((ex_below (by (try show Ex _ _); with_reducible repeat (first | exact ex_refl _ | assumption | refine ex_drewL ?_ | refine ex_appR ?_ _ | refine ex_wx ?_ _ | refine ex_drew ?_ | refine ex_alloc ?_ _))).trans hbe)⟩, by simp [intOf]⟩
    · obtain rfl : k = 4 := by omega
      clear hlt hk
      go_wp2
      go_ret
      have h := hown.out
      rw [List.take_of_length_le (by rw [hi4_len]; omega)] at h
      refine ⟨_, rfl, ?_, (by (try show Ex _ _); with_reducible repeat (first | exact ex_refl _ | assumption | refine ex_drewL ?_ | refine ex_appR ?_ _ | refine ex_wx ?_ _ | refine ex_drew ?_ | refine ex_alloc ?_ _))⟩
      unfold OwnW
      first | (rw [List.length_append, hi4_len]; first | exact h | (rw [HN.out]; exact h)) | exact h
set_option maxHeartbeats 1000000 in
theorem put32w_in (x : Nat) (hx : x < 4294967296) (l : By) (v : Value) (w : World) (hl : l.length ≤ 1000000) (h0 : 0 < l.length) (hs : SlT w v l) :
    Calls Tryd.prog 77 #[v, .int .u32 x, I 4] w (PostOw w (l ++ hi4 x)) := by
  obtain ⟨a, c, rfl, k1, k2, k4, k3⟩ := hs.out
  obtain ⟨g, off, h1, hg, hc⟩ := SlB.pos k3 h0
  subst h1
  have hcn := SlB.cells hc 0 l.length (by omega)
  rw [Nat.add_zero] at hcn
  obtain ⟨n, hn⟩ : ∃ n, l.length = n := ⟨_, rfl⟩
  have HN := Lib.hid hn
  rw [hn] at hcn hl h0 k1 ⊢
  clear hn hs hc k3 k4
  have e1 : (n : Int) ≤ (n : Int) + 4 := by omega
  have e2 : (n : Int) + 4 ≤ 281474976710656 := by omega
  go_enter Tryd.func77, Tryd.ntmps77
  go_wp2
  go_loopw [7, 8] (fun v i wr => ∃ k : Nat, k ≤ 4 ∧ i = I (8 * (4 - 1 - k : Int)) ∧ Hid (wr.ownsRow w.heap.size 5 1 v (n + k) (Lib.byteCells (l ++ (hi4 x).take k))) ∧ Ex w wr) (fun _ i _ => (intOf i + 8).toNat)
  case atStart =>
    refine ⟨0, by omega, by simp, Lib.hid ?_, (by (try show Ex _ _); with_reducible repeat (first | exact ex_refl _ | assumption | refine ex_drewL ?_ | refine ex_appR ?_ _ | refine ex_wx ?_ _ | refine ex_drew ?_ | refine ex_alloc ?_ _))⟩
    rw [List.take_zero, List.append_nil]
    exact owns_new (cap := n + 4) rfl (Nat.le_refl _) (by omega) (by unfold maxLen; omega) (by simp) (row_over_takeW l n 4 _ HN.out)
  case round =>
    obtain ⟨k, hk, rfl, hown, X, rfl⟩ := hrel
    by_cases hlt : k < 4
    · have hz := ex_size (show Ex w (wx w X) from ⟨X, rfl⟩)
      have HS := hi4_take x k hlt
      obtain ⟨j, hj⟩ : ∃ j, k + 1 = j := ⟨_, rfl⟩
      rw [hj] at HS
      obtain ⟨b, hb⟩ : ∃ b, UInt8.ofNat (x / 256 ^ (3 - k)) = b := ⟨_, rfl⟩
      rw [hb] at HS
      replace HS := Lib.hid HS
      have HZ : Hid (bn b = ((x / 256 ^ (3 - k) : Nat) : Int) % 256) := Lib.hid (by rw [← hb]; simp [bn])
      have HL : Hid (((hi4 x).take k).length = k) := Lib.hid (by rw [List.length_take, hi4_len]; omega)
      clear hb
      obtain ⟨q, hq⟩ : ∃ q : Int, (8 : Int) * (4 - 1 - k) = q := ⟨_, rfl⟩
      rw [hq]
      rcases (show (k = 0 ∧ q = 24 ∧ j = 1) ∨ (k = 1 ∧ q = 16 ∧ j = 2) ∨ (k = 2 ∧ q = 8 ∧ j = 3) ∨ (k = 3 ∧ q = 0 ∧ j = 4) by omega) with (⟨rfl, rfl, hj2⟩ | ⟨rfl, rfl, hj2⟩ | ⟨rfl, rfl, hj2⟩ | ⟨rfl, rfl, hj2⟩)
      all_goals clear hq hk hlt hj
      all_goals
        go_wp2_with (at_builtin; refine wpAppB _ _ rfl rfl (owns_ex hown.out (by (try show Ex _ _); with_reducible repeat (first | exact ex_refl _ | assumption | refine ex_drewL ?_ | refine ex_appR ?_ _ | refine ex_wx ?_ _ | refine ex_drew ?_ | refine ex_alloc ?_ _))) rfl rfl (sls_one b (by (try show Ex _ _); with_reducible repeat (first | exact ex_refl _ | assumption | refine ex_drewL ?_ | refine ex_appR ?_ _ | refine ex_wx ?_ _ | refine ex_drew ?_ | refine ex_alloc ?_ _)) (by simp [go_sem]) (by have h := HZ.out; simp at h ⊢; omega)) (by rw [List.length_singleton]; omega) (by simp [go_sem] <;> omega) (fun v1 w1 hown1 hbe => ?_))
      all_goals
        refine ⟨⟨j, by omega, by rw [hj2]; rfl, Lib.hid (by rw [HS.out, ← List.append_assoc]; subst hj2; exact hown1), ex_of_below ((ex_below (by (try show Ex _ _); with_reducible repeat (first | exact ex_refl _ | assumption | refine ex_drewL ?_ | refine ex_appR ?_ _ | refine ex_wx ?_ _ | refine ex_drew ?_ | refine ex_alloc ?_ _))).trans hbe)⟩, by simp [intOf]⟩
    · obtain rfl : k = 4 := by omega
      clear hlt hk
      go_wp2
      go_ret
      have h := hown.out
      rw [List.take_of_length_le (by rw [hi4_len]; omega)] at h
      refine ⟨_, rfl, ?_, (by (try show Ex _ _); with_reducible repeat (first | exact ex_refl _ | assumption | refine ex_drewL ?_ | refine ex_appR ?_ _ | refine ex_wx ?_ _ | refine ex_drew ?_ | refine ex_alloc ?_ _))⟩
      unfold OwnW
      first | (rw [List.length_append, hi4_len]; first | exact h | (rw [HN.out]; exact h)) | exact h
theorem put32_slt (x : Nat) (hx : x < 4294967296) (l : By) (v : Value) (w : World) (hl : l.length ≤ 1000000) (hs : SlT w v l) (hv : v = .slice none 0 0 ∨ 0 < l.length) :
    Calls Tryd.prog 63 #[v, .int .u32 x] w (PostOw w (l ++ hi4 x)) := by
  have HP : Hid (∀ w', Ex w w' → Calls Tryd.prog 77 #[v, .int .u32 x, I 4] w' (PostOw w' (l ++ hi4 x))) := Lib.hid fun w' k => by
    rcases hv with rfl | h0
    · obtain ⟨a, c, hv2, _⟩ := hs.out
      obtain ⟨_, hl0, _⟩ := Value.slice.inj hv2
      have : l = [] := List.eq_nil_of_length_eq_zero hl0.symm
      rw [this]
      exact put32n_in x hx w'
    · exact put32w_in x hx l v w' hl h0 (hs.ex k)
  go_enter Tryd.func63, Tryd.ntmps63
  go_wp2_with (go_at_call 77; (with_reducible refine (HP.out _ (by (try show Ex _ _); with_reducible repeat (first | exact ex_refl _ | assumption | refine ex_drewL ?_ | refine ex_appR ?_ _ | refine ex_wx ?_ _ | refine ex_drew ?_ | refine ex_alloc ?_ _))).mono ?_); rintro e w2 ⟨v2, rfl, hown, X, rfl⟩)
  go_ret
  exact ⟨_, rfl, hown, (by (try show Ex _ _); with_reducible repeat (first | exact ex_refl _ | assumption | refine ex_drewL ?_ | refine ex_appR ?_ _ | refine ex_wx ?_ _ | refine ex_drew ?_ | refine ex_alloc ?_ _))⟩
end Go.Proofs.YtabjamkkhlbajaaDoor
