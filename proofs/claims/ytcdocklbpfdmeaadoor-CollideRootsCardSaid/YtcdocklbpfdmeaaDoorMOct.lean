import Derived.Test.YtcdocklbpfdmeaaDoorMChk
import Derived.Lib.AppendStr

/- Bytes behind bytes, numbers in bytes: both texts. -/
set_option linter.unusedSimpArgs false
set_option linter.unusedVariables false
set_option maxRecDepth 20000
namespace Go.Proofs.YtcdocklbpfdmeaaDoor
open Go.RowKit
/-- Bytes of the call's own, handed back. -/
def PostB (W : World) (n : Nat) (l : List UInt8) (e : Ending) (w' : World) : Prop := ∃ v, e = .returned v ∧ w'.ownsRow W.heap.size 5 1 v n (Lib.byteCells l) ∧ ∃ X, w' = wx W X
theorem owns_sls {w : World} {Z : Nat} {v : Value} {n : Nat} {l : List UInt8} (h : w.ownsRow Z 5 1 v n (Lib.byteCells l)) (hn : 0 < n) : SlS w v l := by
  obtain ⟨a, c, h1, h2, h3, h4, h5⟩ := (owns_slt h).out
  cases a with
  | none =>
    have hl : l.length = n := by have := h.1; simpa [Lib.byteCells] using this
    have := h4 rfl
    omega
  | some ad => exact ⟨ad, c, h1, h2, h3, h5⟩
def hiF (x n k : Nat) : Nat → UInt8 := fun j => if n ≤ j + k then UInt8.ofNat (x / 256 ^ (n - 1 - j)) else 0
theorem hiF_0 (x n : Nat) : rowB n (hiF x n 0) = rowB n fun _ => 0 := rowB_congr fun i hi => by unfold hiF; rw [if_neg (by omega)]
theorem hiF_set (x n k : Nat) (hk : k < n) : rowB n (upd (hiF x n k) (n - 1 - k) (UInt8.ofNat (x / 256 ^ k))) = rowB n (hiF x n (k + 1)) := rowB_congr fun i hi => by
  unfold upd hiF
  by_cases h : i = n - 1 - k
  · rw [if_pos h, if_pos (by omega), h, show n - 1 - (n - 1 - k) = k by omega]
  · rw [if_neg h]
    by_cases h2 : n ≤ i + k
    · rw [if_pos h2, if_pos (by omega)]
    · rw [if_neg h2, if_neg (by omega)]
theorem hiF_n (x n : Nat) : (rowB n (hiF x n n)).toList = Lib.byteCells (hiL x n) := by
  rw [← rowB_list, hiL_len]
  exact congrArg Array.toList <| rowB_congr fun i hi => by
    unfold hiF gF hiL
    rw [if_pos (by omega), List.getD_eq_getElem?_getD, List.getElem?_map, List.getElem?_range hi]; rfl
end Go.Proofs.YtcdocklbpfdmeaaDoor

/- Numbers behind bytes. -/
set_option linter.unusedSimpArgs false
set_option linter.unusedVariables false
set_option maxRecDepth 20000
namespace Go.Proofs.YtcdocklbpfdmeaaDoor
open Go.RowKit
theorem row_over_take (l : List UInt8) (n m : Nat) (z : Nat → UInt8) (hn : l.length = n) : Lib.byteCells l = (rowB (n + m) (over z 0 n (gF l))).toList.take (n * 1) := by
  subst hn
  rw [← rowB_list, Nat.mul_one]
  apply List.ext_getElem?
  intro i
  rw [List.getElem?_take, Array.getElem?_toList, Array.getElem?_toList, rowB_get, rowB_get]
  by_cases h : i < l.length
  · rw [if_pos h, if_pos h, if_pos (by omega)]
    unfold over
    simp [h]
  · rw [if_neg h, if_neg h]
theorem hiL_snoc (x n k : Nat) (hk : k < n) : (hiL x n).take (k + 1) = (hiL x n).take k ++ [UInt8.ofNat (x / 256 ^ (n - 1 - k))] := by
  rw [List.take_add_one]
  congr 1
  unfold hiL
  rw [List.getElem?_map, List.getElem?_range hk]; rfl
theorem hiL_all (x n : Nat) : (hiL x n).take n = hiL x n := List.take_of_length_le (by rw [hiL_len]; omega)
theorem put16_in (x : Nat) (hx : x < 65536) (l : List UInt8) (v : Value) (w : World) (hl : l.length ≤ 1000000) (h0 : 0 < l.length) (hs : SlS w v l) :
    Calls Tryd.prog 149 #[v, .int .u16 x, I 2] w (PostB w (l.length + 2) (l ++ hiL x 2)) := by
  obtain ⟨a, c, rfl, k1, k2, k3⟩ := hs.out
  obtain ⟨g, off, h1, hg, hc⟩ := SlB.pos k3 h0
  cases h1
  have hcn := SlB.cells hc 0 l.length (by omega)
  rw [Nat.add_zero] at hcn
  obtain ⟨n, hn⟩ : ∃ n, l.length = n := ⟨_, rfl⟩
  have HN := Lib.hid hn
  rw [hn] at hcn hl h0 k1 ⊢
  clear hn hs hc k3
  have e1 : (n : Int) ≤ (n : Int) + 2 := by omega
  have e2 : (n : Int) + 2 ≤ 281474976710656 := by omega
  go_enter Tryd.func149, Tryd.ntmps149
  go_wp2
  go_loopw [7, 8] (fun v i wr => ∃ k : Nat, k ≤ 2 ∧ i = I (8 * (2 - 1 - k : Int)) ∧ Hid (wr.ownsRow w.heap.size 5 1 v (n + k) (Lib.byteCells (l ++ (hiL x 2).take k))) ∧ Ex w wr) (fun _ i _ => (intOf i + 8).toNat)
  case atStart =>
    refine ⟨0, by omega, by simp, Lib.hid ?_, (by (try show Ex _ _); repeat (first | (with_reducible exact ex_refl _) | (with_reducible assumption) | (with_reducible refine ex_drewL ?_) | (with_reducible refine ex_appR ?_ _) | (with_reducible refine ex_wx ?_ _) | (with_reducible refine ex_drew ?_) | (with_reducible refine ex_alloc ?_ _)))⟩
    rw [List.take_zero, List.append_nil]
    exact owns_new (cap := n + 2) rfl (Nat.le_refl _) (by omega) (by unfold maxLen; omega) (by simp) (row_over_take l n 2 _ HN.out)
  case round =>
    obtain ⟨k, hk, rfl, hown, X, rfl⟩ := hrel
    by_cases hlt : k < 2
    · have hz := ex_size (show Ex w (wx w X) from ⟨X, rfl⟩)
      have HS := hiL_snoc x 2 k hlt
      obtain ⟨j, hj⟩ : ∃ j, k + 1 = j := ⟨_, rfl⟩
      rw [hj] at HS
      obtain ⟨b, hb⟩ : ∃ b, UInt8.ofNat (x / 256 ^ (2 - 1 - k)) = b := ⟨_, rfl⟩
      rw [hb] at HS
      replace HS := Lib.hid HS
      have HZ : Hid (bn b = ((x / 256 ^ (2 - 1 - k) : Nat) : Int) % 256) := Lib.hid (by rw [← hb]; simp [bn])
      have HL : Hid (((hiL x 2).take k).length = k) := Lib.hid (by rw [List.length_take, hiL_len]; omega)
      clear hb
      obtain ⟨q, hq⟩ : ∃ q : Int, (8 : Int) * (2 - 1 - k) = q := ⟨_, rfl⟩
      rw [hq]
      rcases (show (k = 0 ∧ q = 8 ∧ j = 1) ∨ (k = 1 ∧ q = 0 ∧ j = 2) by omega) with (⟨rfl, rfl, hj2⟩ | ⟨rfl, rfl, hj2⟩)
      all_goals clear hq hk hlt hj
      all_goals
        go_wp2_with (at_builtin; refine wpAppB _ _ rfl rfl (owns_ex hown.out (by (try show Ex _ _); repeat (first | (with_reducible exact ex_refl _) | (with_reducible assumption) | (with_reducible refine ex_drewL ?_) | (with_reducible refine ex_appR ?_ _) | (with_reducible refine ex_wx ?_ _) | (with_reducible refine ex_drew ?_) | (with_reducible refine ex_alloc ?_ _)))) rfl rfl (sls_one b (by (try show Ex _ _); repeat (first | (with_reducible exact ex_refl _) | (with_reducible assumption) | (with_reducible refine ex_drewL ?_) | (with_reducible refine ex_appR ?_ _) | (with_reducible refine ex_wx ?_ _) | (with_reducible refine ex_drew ?_) | (with_reducible refine ex_alloc ?_ _))) (by simp [go_sem]) (by have h := HZ.out; simp at h ⊢; omega)) (by simp; omega) (by simp [go_sem] <;> omega) (fun v1 w1 hown1 hbe => ?_))
      all_goals
        refine ⟨⟨j, by omega, by rw [hj2]; rfl, Lib.hid (by rw [HS.out, ← List.append_assoc]; subst hj2; exact hown1), ex_of_below ((ex_below (by (try show Ex _ _); repeat (first | (with_reducible exact ex_refl _) | (with_reducible assumption) | (with_reducible refine ex_drewL ?_) | (with_reducible refine ex_appR ?_ _) | (with_reducible refine ex_wx ?_ _) | (with_reducible refine ex_drew ?_) | (with_reducible refine ex_alloc ?_ _)))).trans hbe)⟩, by simp [intOf]⟩
    · obtain rfl : k = 2 := by omega
      clear hlt hk
      go_wp2
      go_ret
      refine ⟨_, rfl, ?_, (by (try show Ex _ _); repeat (first | (with_reducible exact ex_refl _) | (with_reducible assumption) | (with_reducible refine ex_drewL ?_) | (with_reducible refine ex_appR ?_ _) | (with_reducible refine ex_wx ?_ _) | (with_reducible refine ex_drew ?_) | (with_reducible refine ex_alloc ?_ _)))⟩
      have := hown.out
      rwa [hiL_all] at this
set_option maxHeartbeats 1000000 in
theorem put32_in (x : Nat) (hx : x < 4294967296) (l : List UInt8) (v : Value) (w : World) (hl : l.length ≤ 1000000) (h0 : 0 < l.length) (hs : SlS w v l) :
    Calls Tryd.prog 135 #[v, .int .u32 x, I 4] w (PostB w (l.length + 4) (l ++ hiL x 4)) := by
  obtain ⟨a, c, rfl, k1, k2, k3⟩ := hs.out
  obtain ⟨g, off, h1, hg, hc⟩ := SlB.pos k3 h0
  cases h1
  have hcn := SlB.cells hc 0 l.length (by omega)
  rw [Nat.add_zero] at hcn
  obtain ⟨n, hn⟩ : ∃ n, l.length = n := ⟨_, rfl⟩
  have HN := Lib.hid hn
  rw [hn] at hcn hl h0 k1 ⊢
  clear hn hs hc k3
  have e1 : (n : Int) ≤ (n : Int) + 4 := by omega
  have e2 : (n : Int) + 4 ≤ 281474976710656 := by omega
  go_enter Tryd.func135, Tryd.ntmps135
  go_wp2
  go_loopw [7, 8] (fun v i wr => ∃ k : Nat, k ≤ 4 ∧ i = I (8 * (4 - 1 - k : Int)) ∧ Hid (wr.ownsRow w.heap.size 5 1 v (n + k) (Lib.byteCells (l ++ (hiL x 4).take k))) ∧ Ex w wr) (fun _ i _ => (intOf i + 8).toNat)
  case atStart =>
    refine ⟨0, by omega, by simp, Lib.hid ?_, (by (try show Ex _ _); repeat (first | (with_reducible exact ex_refl _) | (with_reducible assumption) | (with_reducible refine ex_drewL ?_) | (with_reducible refine ex_appR ?_ _) | (with_reducible refine ex_wx ?_ _) | (with_reducible refine ex_drew ?_) | (with_reducible refine ex_alloc ?_ _)))⟩
    rw [List.take_zero, List.append_nil]
    exact owns_new (cap := n + 4) rfl (Nat.le_refl _) (by omega) (by unfold maxLen; omega) (by simp) (row_over_take l n 4 _ HN.out)
  case round =>
    obtain ⟨k, hk, rfl, hown, X, rfl⟩ := hrel
    by_cases hlt : k < 4
    · have hz := ex_size (show Ex w (wx w X) from ⟨X, rfl⟩)
      have HS := hiL_snoc x 4 k hlt
      obtain ⟨j, hj⟩ : ∃ j, k + 1 = j := ⟨_, rfl⟩
      rw [hj] at HS
      obtain ⟨b, hb⟩ : ∃ b, UInt8.ofNat (x / 256 ^ (4 - 1 - k)) = b := ⟨_, rfl⟩
      rw [hb] at HS
      replace HS := Lib.hid HS
      have HZ : Hid (bn b = ((x / 256 ^ (4 - 1 - k) : Nat) : Int) % 256) := Lib.hid (by rw [← hb]; simp [bn])
      have HL : Hid (((hiL x 4).take k).length = k) := Lib.hid (by rw [List.length_take, hiL_len]; omega)
      clear hb
      obtain ⟨q, hq⟩ : ∃ q : Int, (8 : Int) * (4 - 1 - k) = q := ⟨_, rfl⟩
      rw [hq]
      rcases (show (k = 0 ∧ q = 24 ∧ j = 1) ∨ (k = 1 ∧ q = 16 ∧ j = 2) ∨ (k = 2 ∧ q = 8 ∧ j = 3) ∨ (k = 3 ∧ q = 0 ∧ j = 4) by omega) with (⟨rfl, rfl, hj2⟩ | ⟨rfl, rfl, hj2⟩ | ⟨rfl, rfl, hj2⟩ | ⟨rfl, rfl, hj2⟩)
      all_goals clear hq hk hlt hj
      all_goals
        go_wp2_with (at_builtin; refine wpAppB _ _ rfl rfl (owns_ex hown.out (by (try show Ex _ _); repeat (first | (with_reducible exact ex_refl _) | (with_reducible assumption) | (with_reducible refine ex_drewL ?_) | (with_reducible refine ex_appR ?_ _) | (with_reducible refine ex_wx ?_ _) | (with_reducible refine ex_drew ?_) | (with_reducible refine ex_alloc ?_ _)))) rfl rfl (sls_one b (by (try show Ex _ _); repeat (first | (with_reducible exact ex_refl _) | (with_reducible assumption) | (with_reducible refine ex_drewL ?_) | (with_reducible refine ex_appR ?_ _) | (with_reducible refine ex_wx ?_ _) | (with_reducible refine ex_drew ?_) | (with_reducible refine ex_alloc ?_ _))) (by simp [go_sem]) (by have h := HZ.out; simp at h ⊢; omega)) (by simp; omega) (by simp [go_sem] <;> omega) (fun v1 w1 hown1 hbe => ?_))
      all_goals
        refine ⟨⟨j, by omega, by rw [hj2]; rfl, Lib.hid (by rw [HS.out, ← List.append_assoc]; subst hj2; exact hown1), ex_of_below ((ex_below (by (try show Ex _ _); repeat (first | (with_reducible exact ex_refl _) | (with_reducible assumption) | (with_reducible refine ex_drewL ?_) | (with_reducible refine ex_appR ?_ _) | (with_reducible refine ex_wx ?_ _) | (with_reducible refine ex_drew ?_) | (with_reducible refine ex_alloc ?_ _)))).trans hbe)⟩, by simp [intOf]⟩
    · obtain rfl : k = 4 := by omega
      clear hlt hk
      go_wp2
      go_ret
      refine ⟨_, rfl, ?_, (by (try show Ex _ _); repeat (first | (with_reducible exact ex_refl _) | (with_reducible assumption) | (with_reducible refine ex_drewL ?_) | (with_reducible refine ex_appR ?_ _) | (with_reducible refine ex_wx ?_ _) | (with_reducible refine ex_drew ?_) | (with_reducible refine ex_alloc ?_ _)))⟩
      have := hown.out
      rwa [hiL_all] at this
theorem put16_any (x : Nat) (hx : x < 65536) (l : List UInt8) (v : Value) (w : World) (hl : l.length ≤ 1000000) (h0 : 0 < l.length) (hs : SlS w v l) :
    Calls Tryd.prog 137 #[v, .int .u16 x] w (PostB w (l.length + 2) (l ++ hiL x 2)) := by
  go_enter Tryd.func137, Tryd.ntmps137
  go_wp2_with (go_at_call 149; refine (put16_in x hx l v _ hl h0 (hs.ex (by (try show Ex _ _); repeat (first | (with_reducible exact ex_refl _) | (with_reducible assumption) | (with_reducible refine ex_drewL ?_) | (with_reducible refine ex_appR ?_ _) | (with_reducible refine ex_wx ?_ _) | (with_reducible refine ex_drew ?_) | (with_reducible refine ex_alloc ?_ _))))).mono ?_; rintro e w2 ⟨v2, rfl, hown, X, rfl⟩)
  go_ret
  exact ⟨_, rfl, hown, (by (try show Ex _ _); repeat (first | (with_reducible exact ex_refl _) | (with_reducible assumption) | (with_reducible refine ex_drewL ?_) | (with_reducible refine ex_appR ?_ _) | (with_reducible refine ex_wx ?_ _) | (with_reducible refine ex_drew ?_) | (with_reducible refine ex_alloc ?_ _)))⟩
theorem put32_any (x : Nat) (hx : x < 4294967296) (l : List UInt8) (v : Value) (w : World) (hl : l.length ≤ 1000000) (h0 : 0 < l.length) (hs : SlS w v l) :
    Calls Tryd.prog 101 #[v, .int .u32 x] w (PostB w (l.length + 4) (l ++ hiL x 4)) := by
  go_enter Tryd.func101, Tryd.ntmps101
  go_wp2_with (go_at_call 135; refine (put32_in x hx l v _ hl h0 (hs.ex (by (try show Ex _ _); repeat (first | (with_reducible exact ex_refl _) | (with_reducible assumption) | (with_reducible refine ex_drewL ?_) | (with_reducible refine ex_appR ?_ _) | (with_reducible refine ex_wx ?_ _) | (with_reducible refine ex_drew ?_) | (with_reducible refine ex_alloc ?_ _))))).mono ?_; rintro e w2 ⟨v2, rfl, hown, X, rfl⟩)
  go_ret
  exact ⟨_, rfl, hown, (by (try show Ex _ _); repeat (first | (with_reducible exact ex_refl _) | (with_reducible assumption) | (with_reducible refine ex_drewL ?_) | (with_reducible refine ex_appR ?_ _) | (with_reducible refine ex_wx ?_ _) | (with_reducible refine ex_drew ?_) | (with_reducible refine ex_alloc ?_ _)))⟩
end Go.Proofs.YtcdocklbpfdmeaaDoor
