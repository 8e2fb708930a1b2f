import Derived.Test.YtpcfkjeikhehaaaDoorMSumR
import Derived.Test.YtpcfkjeikhehaaaDoorMOpen
import Derived.Lib.AppendZeros
import Derived.Test.YtpcfkjeikhehaaaDoorMFrV

/- slices.Concat of rows of bytes. -/
set_option linter.unusedSimpArgs false
set_option linter.unusedVariables false
set_option maxRecDepth 20000
namespace Go.Proofs.YtpcfkjeikhehaaaDoor
open Go.RowKit
theorem grow_nil (n : Nat) (w : World) (hn : n ≤ 140737488355328) :
    Calls Tryd.prog 80 #[.slice none 0 0, I n] w fun e w' => ∃ v, e = .returned v ∧ w'.ownsRow w.heap.size 5 1 v 0 [] ∧ Ex w w' := by
  obtain ⟨i, hi, h1', h2', h3'⟩ := info_parts appu8.hi
  rcases Nat.eq_zero_or_pos n with h0 | hpos
  · subst h0
    go_enter Tryd.func80, Tryd.ntmps80
    go_wp2
    go_ret
    exact ⟨_, rfl, owns_nil _ _ _ _, (by (try show Ex _ _); repeat (first | (with_reducible exact ex_refl _) | (with_reducible assumption) | (with_reducible refine ex_drewL ?_) | (with_reducible refine ex_appR ?_ _) | (with_reducible refine ex_wx ?_ _) | (with_reducible refine ex_drew ?_) | (with_reducible refine ex_alloc ?_ _)))⟩
  · have hr := Lib.run_append_nil_zeros w 27 3 27 5 i (.int .u8 0) .i64 .i64 appu8.ht Tryd.underlying3 hi h1' n hpos (by omega) (by omega) (by rw [h3']; omega)
    have HR := Lib.hid hr
    clear hr
    have e1 : (0 : Int) < n := by omega
    go_enter Tryd.func80, Tryd.ntmps80
    go_wp2_with (at_builtin; refine Lib.wpList_append_run _ rfl _ _ _ _ rfl _ _ rfl rfl _ _ HR.out ?_)
    go_ret
    refine ⟨_, rfl, ?_, (by (try show Ex _ _); repeat (first | (with_reducible exact ex_refl _) | (with_reducible assumption) | (with_reducible refine ex_drewL ?_) | (with_reducible refine ex_appR ?_ _) | (with_reducible refine ex_wx ?_ _) | (with_reducible refine ex_drew ?_) | (with_reducible refine ex_alloc ?_ _)))⟩
    have h1 := grownCap_ge w n 0 5
    refine owns_drew (owns_new (xs := []) rfl (Nat.le_refl _) (Nat.zero_le _) (grownCap_le_maxLen w n 0 5 (by unfold maxLen; omega)) ?_ (by simp))
    rw [Array.size_append]
    have := manyC_size (.int .u8 0)
    unfold manyC madeCells at this
    simp [Builtin.zeroCells]
    omega
def catL (L : Nat → List UInt8) (n : Nat) : List UInt8 := (List.range n).flatMap L
theorem catL_succ (L : Nat → List UInt8) (n : Nat) : catL L (n + 1) = catL L n ++ L n := by
  unfold catL; rw [List.range_succ, List.flatMap_append]; simp
/-- **Concat**, a row of its own. -/
theorem concat_own (a : Option Addr) (n c : Nat) (V : Nat → Value) (L : Nat → List UInt8) (w : World) (hn : n ≤ c) (hc : c ≤ maxLen) (hs : SlV w a n V) (hV : ∀ i, i < n → SlS w (V i) (L i)) (hlen : ∀ k, k ≤ n → (catL L k).length ≤ 140737488355328) :
    Calls Tryd.prog 54 #[.slice a n c] w fun e w' => ∃ v, e = .returned v ∧ w'.ownsRow w.heap.size 5 1 v (catL L n).length (Lib.byteCells (catL L n)) ∧ Ex w w' := by
  unfold maxLen at hc
  have HV : Hid (∀ i, i < n → SlS w (V i) (L i)) := Lib.hid hV
  have HL : Hid (∀ k, k ≤ n → (catL L k).length ≤ 140737488355328) := Lib.hid hlen
  clear hV hlen
  go_enter Tryd.func54, Tryd.ntmps54
  go_wp2
  go_loopw [3, 11] (fun s i wr => ∃ k : Nat, k ≤ n ∧ s = I (catL L k).length ∧ i = I k ∧ wr = w) (fun _ i _ => n - (intOf i).toNat)
  case atStart => exact ⟨0, by omega, rfl, rfl, rfl⟩
  case round =>
    obtain ⟨k, hk, rfl, rfl, rfl⟩ := hrel
    by_cases hlt : k < n
    · obtain ⟨g, off, rfl, hg, hcell⟩ := hs.pos (by omega)
      have h1 := hcell k hlt
      obtain ⟨ad, c2, hv, _⟩ := (HV.out k hlt).out
      rw [hv] at h1
      clear hcell hv
      have hl1 := HL.out (k + 1) (by omega)
      rw [catL_succ, List.length_append] at hl1
      have hneg : ¬ ((catL L k).length : Int) + (L k).length < 0 := by omega
      go_wp2
      refine ⟨⟨k + 1, by omega, ?_, by go_num, by trivial⟩, by simp [intOf]; omega⟩
      rw [catL_succ, List.length_append]; go_num
    · obtain rfl : k = n := by omega
      have hl1 := HL.out k (by omega)
      clear hlt hk
      go_wp2_with (go_at_call 80; refine (grow_nil _ _ hl1).mono ?_; rintro e w' ⟨v, rfl, hown, X, rfl⟩)
      go_loopw [6, 27] (fun v i W2 => ∃ q : Nat, q ≤ k ∧ i = I q ∧ W2.ownsRow wr.heap.size 5 1 v (catL L q).length (Lib.byteCells (catL L q)) ∧ Ex wr W2) (fun _ i _ => k - (intOf i).toNat)
      case atStart => exact ⟨0, by omega, rfl, hown, (by (try show Ex _ _); repeat (first | (with_reducible exact ex_refl _) | (with_reducible assumption) | (with_reducible refine ex_drewL ?_) | (with_reducible refine ex_appR ?_ _) | (with_reducible refine ex_wx ?_ _) | (with_reducible refine ex_drew ?_) | (with_reducible refine ex_alloc ?_ _)))⟩
      case round =>
        obtain ⟨q, hq, rfl, hown, X2, rfl⟩ := hrel
        by_cases hlt : q < k
        · obtain ⟨g, off, rfl, hg, hcell⟩ := hs.pos (by omega)
          have h1 := hcell q hlt
          obtain ⟨ad, c2, hv, k1, k2, k3⟩ := (HV.out q hlt).out
          rw [hv] at h1
          clear hcell hv
          have hl2 := HL.out (q + 1) (by omega)
          rw [catL_succ, List.length_append] at hl2
          have HNEWS := Lib.hid (sll_news k3 (w' := wx wr X2) ⟨X2, rfl⟩)
          go_wp2_with (at_builtin; refine wpApp appu8 _ _ rfl rfl hown rfl ad (L q).length c2 (Lib.byteCells (L q)) rfl (by rw [bytes_len, Nat.mul_one]) HNEWS.out (bytes_one _) (by unfold maxLen; omega) (by omega) (by simp [go_sem]) (fun v' w1 hown2 hbe => ?_))
          refine ⟨⟨q + 1, by omega, by go_num, ?_, ex_of_below ((ex_below (by (try show Ex _ _); repeat (first | (with_reducible exact ex_refl _) | (with_reducible assumption) | (with_reducible refine ex_drewL ?_) | (with_reducible refine ex_appR ?_ _) | (with_reducible refine ex_wx ?_ _) | (with_reducible refine ex_drew ?_) | (with_reducible refine ex_alloc ?_ _)))).trans hbe)⟩, by simp [intOf]; omega⟩
          rw [catL_succ, List.length_append, ← bytes_app]
          exact hown2
        · obtain rfl : q = k := by omega
          clear hlt hq
          go_wp2
          go_ret
          exact ⟨_, rfl, hown, (by (try show Ex _ _); repeat (first | (with_reducible exact ex_refl _) | (with_reducible assumption) | (with_reducible refine ex_drewL ?_) | (with_reducible refine ex_appR ?_ _) | (with_reducible refine ex_wx ?_ _) | (with_reducible refine ex_drew ?_) | (with_reducible refine ex_alloc ?_ _)))⟩
/-- **Concat.** -/
theorem concat_any (a : Option Addr) (n c : Nat) (V : Nat → Value) (L : Nat → List UInt8) (w : World) (hn : n ≤ c) (hc : c ≤ maxLen) (hs : SlV w a n V) (hV : ∀ i, i < n → SlS w (V i) (L i)) (hlen : ∀ k, k ≤ n → (catL L k).length ≤ 140737488355328) :
    Calls Tryd.prog 54 #[.slice a n c] w (PostT w (catL L n)) :=
  (concat_own a n c V L w hn hc hs hV hlen).mono fun e w' ⟨v, h1, h2, h3⟩ => ⟨v, h1, owns_slt h2, h3⟩
def at3 {α : Type} (x y z : α) (i : Nat) : α := if i = 0 then x else if i = 1 then y else z
theorem cat3 (x y z : List UInt8) : catL (at3 x y z) 3 = x ++ (y ++ z) := by
  rw [catL_succ, catL_succ, catL_succ]; simp [catL, at3]
theorem concat3 {W W2 : World} {g : Nat} {t : TypeId} {v0 v1 v2 : Value} {x y z : List UInt8} (k : Ex (W.alloc (.cells #[v0, v1, v2] t)) W2) (hg : g = W.heap.size) (h0 : SlS W2 v0 x) (h1 : SlS W2 v1 y) (h2 : SlS W2 v2 z) (hl : x.length + (y.length + z.length) ≤ 140737488355328) :
    Calls Tryd.prog 54 #[.slice (some ⟨g, 0, none⟩) 3 3] W2 (PostT W2 (x ++ (y ++ z))) := by
  subst hg
  rw [← cat3]
  have hb := ex_block k (heap_alloc_new W (.cells #[v0, v1, v2] t))
  refine concat_any _ 3 3 (at3 v0 v1 v2) (at3 x y z) _ (by omega) (by decide) ⟨Or.inr ⟨_, 0, rfl, (Array.getElem?_eq_some_iff.1 hb).1, fun i hi => ?_⟩⟩ (fun i hi => ?_) (fun q hq => ?_)
  · rw [Nat.zero_add, cell_of_row _ W.heap.size i _ _ _ hb]
    have : i = 0 ∨ i = 1 ∨ i = 2 := by omega
    rcases this with rfl | rfl | rfl <;> rfl
  · have : i = 0 ∨ i = 1 ∨ i = 2 := by omega
    rcases this with rfl | rfl | rfl
    · exact h0
    · exact h1
    · exact h2
  · have : q = 0 ∨ q = 1 ∨ q = 2 ∨ q = 3 := by omega
    rcases this with rfl | rfl | rfl | rfl <;> simp [catL, at3, List.range_succ] <;> omega
end Go.Proofs.YtpcfkjeikhehaaaDoor

/- Sealed bytes; Encode. -/
set_option linter.unusedSimpArgs false
set_option linter.unusedVariables false
set_option maxRecDepth 20000
namespace Go.Proofs.YtpcfkjeikhehaaaDoor
open Go.RowKit
def sealL (l : List UInt8) : List UInt8 := (bytesD (sumD l)).take 16 ++ l
theorem seal_len (l : List UInt8) : (sealL l).length = 16 + l.length := by unfold sealL; simp [bytesD_len]
def at2 {α : Type} (x y : α) (i : Nat) : α := if i = 0 then x else y
theorem cat2 (x y : List UInt8) : catL (at2 x y) 2 = x ++ y := by
  rw [catL_succ, catL_succ]; simp [catL, at2]
theorem concat2 {W W2 : World} {g : Nat} {t : TypeId} {v0 v1 : Value} {x y : List UInt8} (k : Ex (W.alloc (.cells #[v0, v1] t)) W2) (hg : g = W.heap.size) (h0 : SlS W2 v0 x) (h1 : SlS W2 v1 y) (hl : x.length + y.length ≤ 140737488355328) :
    Calls Tryd.prog 54 #[.slice (some ⟨g, 0, none⟩) 2 2] W2 (PostOw W2 (x ++ y)) := by
  subst hg
  rw [← cat2]
  have hb := ex_block k (heap_alloc_new W (.cells #[v0, v1] t))
  refine concat_own _ 2 2 (at2 v0 v1) (at2 x y) _ (by omega) (by decide) ⟨Or.inr ⟨_, 0, rfl, (Array.getElem?_eq_some_iff.1 hb).1, fun i hi => ?_⟩⟩ (fun i hi => ?_) (fun q hq => ?_)
  · rw [Nat.zero_add, cell_of_row _ W.heap.size i _ _ _ hb]
    have : i = 0 ∨ i = 1 := by omega
    rcases this with rfl | rfl <;> rfl
  · have : i = 0 ∨ i = 1 := by omega
    rcases this with rfl | rfl
    · exact h0
    · exact h1
  · have : q = 0 ∨ q = 1 ∨ q = 2 := by omega
    rcases this with rfl | rfl | rfl <;> simp [catL, at2, List.range_succ] <;> omega
theorem gF_bytesD (d : Dg) (j : Nat) (hj : j < 16) : gF ((bytesD d).take 16) j = dF d j := by
  unfold gF bytesD
  rw [List.getD_eq_getElem?_getD, List.getElem?_take, if_pos hj, List.getElem?_map, List.getElem?_range (by omega)]; rfl
theorem sls_dg16 {w w' : World} {g : Nat} (d : Dg) {t : TypeId} (k : Ex (w.alloc (.cells (rowB 32 (dF d)) t)) w') (hg : g = w.heap.size) : SlS w' (.slice (some ⟨g, 0, none⟩) 16 32) ((bytesD d).take 16) := by
  subst hg
  have hl : ((bytesD d).take 16).length = 16 := by rw [List.length_take, bytesD_len]; rfl
  refine ⟨_, 32, by rw [hl], by rw [hl]; omega, by decide, SlL.ex (sll_block (heap_alloc_new _ _) fun j hj => ?_) k⟩
  rw [hl] at hj
  rw [rowB_get, if_pos (by omega), gF_bytesD d j hj]
set_option maxHeartbeats 1000000 in
theorem sealed_any (l : List UInt8) (v : Value) (w : World) (G : FGlob w) (hs : SlS w v l) (hl : l.length ≤ 1000000) :
    Calls Tryd.prog 31 #[v] w (PostOw w (sealL l)) := by
  have HS := Lib.hid hs
  obtain ⟨a, c, rfl, h1, h2, _⟩ := hs.out
  clear hs
  have h16 : ((bytesD (sumD l)).take 16).length = 16 := by rw [List.length_take, bytesD_len]; rfl
  have HF : Hid ((bytesD (sumD l)).take 16 ++ l = sealL l) := Lib.hid rfl
  go_enter Tryd.func31, Tryd.ntmps31
  go_wp2_with (first | (go_at_call 53; (with_reducible refine (sum_slt G.g (by (try show Ex _ _); repeat (first | (with_reducible exact ex_refl _) | (with_reducible assumption) | (with_reducible refine ex_drewL ?_) | (with_reducible refine ex_appR ?_ _) | (with_reducible refine ex_wx ?_ _) | (with_reducible refine ex_drew ?_) | (with_reducible refine ex_alloc ?_ _))) (HS.out.ex (by (try show Ex _ _); repeat (first | (with_reducible exact ex_refl _) | (with_reducible assumption) | (with_reducible refine ex_drewL ?_) | (with_reducible refine ex_appR ?_ _) | (with_reducible refine ex_wx ?_ _) | (with_reducible refine ex_drew ?_) | (with_reducible refine ex_alloc ?_ _)))).slt (by omega)).mono ?_); rintro e w2 ⟨rfl, X, rfl⟩) | (go_at_call 54; (with_reducible refine (concat2 (by (try show Ex _ _); repeat (first | (with_reducible exact ex_refl _) | (with_reducible assumption) | (with_reducible refine ex_drewL ?_) | (with_reducible refine ex_appR ?_ _) | (with_reducible refine ex_wx ?_ _) | (with_reducible refine ex_drew ?_) | (with_reducible refine ex_alloc ?_ _))) (by simp [go_sem]) (sls_dg16 (sumD l) (by (try show Ex _ _); repeat (first | (with_reducible exact ex_refl _) | (with_reducible assumption) | (with_reducible refine ex_drewL ?_) | (with_reducible refine ex_appR ?_ _) | (with_reducible refine ex_wx ?_ _) | (with_reducible refine ex_drew ?_) | (with_reducible refine ex_alloc ?_ _))) (by simp [go_sem])) (HS.out.ex (by (try show Ex _ _); repeat (first | (with_reducible exact ex_refl _) | (with_reducible assumption) | (with_reducible refine ex_drewL ?_) | (with_reducible refine ex_appR ?_ _) | (with_reducible refine ex_wx ?_ _) | (with_reducible refine ex_drew ?_) | (with_reducible refine ex_alloc ?_ _)))) (by omega)).mono ?_); rintro e w2 ⟨v2, rfl, hO, X2, rfl⟩))
  go_ret
  refine ⟨_, rfl, ?_, (by (try show Ex _ _); repeat (first | (with_reducible exact ex_refl _) | (with_reducible assumption) | (with_reducible refine ex_drewL ?_) | (with_reducible refine ex_appR ?_ _) | (with_reducible refine ex_wx ?_ _) | (with_reducible refine ex_drew ?_) | (with_reducible refine ex_alloc ?_ _)))⟩
  rw [← HF.out]
  exact owns_low hO (by simp [go_sem] <;> omega)
theorem opt_len (c : Bool) (l : List UInt8) : (optL c l).length ≤ l.length := by cases c <;> simp [optL]
theorem plain_len {m : Ms} (h : rightM m = true) : (plainM m).length ≤ 100000 := by
  obtain ⟨⟨a1, a2⟩, zx, ⟨a3, a4, a5, a6⟩, a7, a8, a9, a10, a11⟩ := rightM_spec h
  have h1 := shortL_len (u64_toNat m.tm)
  have h2 := shortL_len (u64_toNat m.pi)
  have h3 := shortL_len (u64_toNat m.pt)
  have h4 := shortL_len (u64_toNat m.cm)
  have h5 := shortL_len (x := m.es.length) (by omega)
  have h6 := shortL_len (x := m.mb.length) (by omega)
  have h7 := shortL_len (x := m.da.length) (by omega)
  have h8 := ents_len _ _ a11
  have o1 := opt_len (hasO m.kd) [boolL m.ok]
  have o2 := opt_len (hasP m.kd) (shortL m.pi.toNat ++ shortL m.pt.toNat)
  have o3 := opt_len (hasC m.kd) (shortL m.cm.toNat)
  have o4 := opt_len (hasE m.kd) (shortL m.es.length ++ entsL m.pt m.es)
  have o5 := opt_len (hasM m.kd) (shortL m.mb.length ++ m.mb.map byteI)
  have o6 := opt_len (hasD m.kd) (shortL m.da.length ++ m.da)
  simp only [List.length_append, List.length_map, List.length_singleton] at o1 o2 o3 o4 o5 o6
  simp only [plainM, List.length_append, List.length_cons, List.length_nil]
  omega
theorem plain_ne (m : Ms) : plainM m ≠ [] := by unfold plainM; simp
def PostE (W : World) (m : Ms) (e : Ending) (w' : World) : Prop := ∃ v, e = .returned (.tuple #[v, I (errC (rightM m))]) ∧ (rightM m = true → OwnL w' W.heap.size v (sealL (plainM m))) ∧ (rightM m = false → v = .slice none 0 0) ∧ Ex W w'
set_option maxHeartbeats 1000000 in
theorem encode_any (m : Ms) (v : Value) (w : World) (G : FGlob w) (hs : MsV w v m) (he : m.es.length ≤ 1000) :
    Calls Tryd.prog 17 #[v] w (PostE w m) := by
  have HC := Lib.hid (fun w' (k : Ex w w') => check_any m v w' (G.ex k) (hs.ex k) he)
  have HP := Lib.hid (fun w' (k : Ex w w') (hr : rightM m = true) => plain_any m v w' (G.ex k) (hs.ex k) hr)
  obtain ⟨ev, mv, dv, rfl, h1, h2, h3⟩ := hs.out
  have HL : Hid (rightM m = true → (plainM m).length ≤ 1000000) := Lib.hid fun h => by have := plain_len h; omega
  have HNE := Lib.hid (plain_ne m)
  unfold PostE
  generalize plainM m = pl at *
  cases hr : rightM m with
  | true =>
    rw [hr] at HC HP HL
    rw [show errC true = 0 from rfl] at HC
    have HP2 := Lib.hid (fun w' k => HP.out w' k rfl)
    have HL2 := Lib.hid (HL.out rfl)
    clear h1 h2 h3 HP HL
    go_enter Tryd.func17, Tryd.ntmps17
    go_wp2_with (first | (go_at_call 18; (with_reducible refine (HC.out _ (by (try show Ex _ _); repeat (first | (with_reducible exact ex_refl _) | (with_reducible assumption) | (with_reducible refine ex_drewL ?_) | (with_reducible refine ex_appR ?_ _) | (with_reducible refine ex_wx ?_ _) | (with_reducible refine ex_drew ?_) | (with_reducible refine ex_alloc ?_ _)))).mono ?_); rintro e w2 ⟨rfl, X, rfl⟩) | (go_at_call 32; (with_reducible refine (HP2.out _ (by (try show Ex _ _); repeat (first | (with_reducible exact ex_refl _) | (with_reducible assumption) | (with_reducible refine ex_drewL ?_) | (with_reducible refine ex_appR ?_ _) | (with_reducible refine ex_wx ?_ _) | (with_reducible refine ex_drew ?_) | (with_reducible refine ex_alloc ?_ _)))).mono ?_); rintro e w2 ⟨v2, rfl, hO, X2, rfl⟩; (try simp only [wx_wx, wx_drew] at hO)) | (go_at_call 31; (with_reducible refine (sealed_any _ _ _ (G.ex (by (try show Ex _ _); repeat (first | (with_reducible exact ex_refl _) | (with_reducible assumption) | (with_reducible refine ex_drewL ?_) | (with_reducible refine ex_appR ?_ _) | (with_reducible refine ex_wx ?_ _) | (with_reducible refine ex_drew ?_) | (with_reducible refine ex_alloc ?_ _)))) ((OwnL.ex hO (by (try show Ex _ _); repeat (first | (with_reducible exact ex_refl _) | (with_reducible assumption) | (with_reducible refine ex_drewL ?_) | (with_reducible refine ex_appR ?_ _) | (with_reducible refine ex_wx ?_ _) | (with_reducible refine ex_drew ?_) | (with_reducible refine ex_alloc ?_ _)))).sls HNE.out) HL2.out).mono ?_); rintro e w2 ⟨v3, rfl, hO3, X3, rfl⟩; (try simp only [wx_wx, wx_drew] at hO3)))
    go_ret2
    refine ⟨_, rfl, fun _ => ?_, fun h => by simp at h, (by (try show Ex _ _); repeat (first | (with_reducible exact ex_refl _) | (with_reducible assumption) | (with_reducible refine ex_drewL ?_) | (with_reducible refine ex_appR ?_ _) | (with_reducible refine ex_wx ?_ _) | (with_reducible refine ex_drew ?_) | (with_reducible refine ex_alloc ?_ _)))⟩
    exact owns_low hO3 (by simp [go_sem] <;> omega)
  | false =>
    rw [hr] at HC
    rw [show errC false = 170 from rfl] at HC
    clear h1 h2 h3 HP HL
    go_enter Tryd.func17, Tryd.ntmps17
    go_wp2_with (first | (go_at_call 18; (with_reducible refine (HC.out _ (by (try show Ex _ _); repeat (first | (with_reducible exact ex_refl _) | (with_reducible assumption) | (with_reducible refine ex_drewL ?_) | (with_reducible refine ex_appR ?_ _) | (with_reducible refine ex_wx ?_ _) | (with_reducible refine ex_drew ?_) | (with_reducible refine ex_alloc ?_ _)))).mono ?_); rintro e w2 ⟨rfl, X, rfl⟩))
    go_ret2
    exact ⟨_, rfl, fun h => by simp at h, fun _ => rfl, (by (try show Ex _ _); repeat (first | (with_reducible exact ex_refl _) | (with_reducible assumption) | (with_reducible refine ex_drewL ?_) | (with_reducible refine ex_appR ?_ _) | (with_reducible refine ex_wx ?_ _) | (with_reducible refine ex_drew ?_) | (with_reducible refine ex_alloc ?_ _)))⟩
end Go.Proofs.YtpcfkjeikhehaaaDoor
