import Derived.Test.YtpcfkjeikhehaaaDoorMSumR
import Derived.Test.YtpcfkjeikhehaaaDoorMOpen
import Derived.Lib.AppendZeros
import Derived.Test.YtpcfkjeikhehaaaDoorMFrV

/- slices.Concat of rows of bytes. -/
set_option linter.unusedSimpArgs false
set_option linter.unusedVariables false
set_option maxRecDepth 20000
namespace Go.Proofs.YtpcfkjeikhehaaaDoor
open Go.RowKit
theorem grow_nil (n : Nat) (w : World) (hn : n ≤ 140737488355328) :
    Calls Tryd.prog 80 #[.slice none 0 0, I n] w fun e w' => ∃ v, e = .returned v ∧ w'.ownsRow w.heap.size 5 1 v 0 [] ∧ Ex w w' := by
  obtain ⟨i, hi, h1', h2', h3'⟩ := info_parts appu8.hi
  rcases Nat.eq_zero_or_pos n with h0 | hpos
  · subst h0
    go_enter Tryd.func80, Tryd.ntmps80
    go_wp2
    go_ret
    exact ⟨_, rfl, owns_nil _ _ _ _, (by (try show Ex _ _); repeat (first | (with_reducible exact ex_refl _) | (with_reducible assumption) | (with_reducible refine ex_drewL ?_) | (with_reducible refine ex_appR ?_ _) | (with_reducible refine ex_wx ?_ _) | (with_reducible refine ex_drew ?_) | (with_reducible refine ex_alloc ?_ _)))⟩
  · have hr := Lib.run_append_nil_zeros w 27 3 27 5 i (.int .u8 0) .i64 .i64 appu8.ht Tryd.underlying3 hi h1' n hpos (by omega) (by omega) (by rw [h3']; omega)
    have HR := Lib.hid hr
    clear hr
    have e1 : (0 : Int) < n := by omega
    go_enter Tryd.func80, Tryd.ntmps80
    go_wp2_with (at_builtin; refine Lib.wpList_append_run _ rfl _ _ _ _ rfl _ _ rfl rfl _ _ HR.out ?_)
    go_ret
    refine ⟨_, rfl, ?_, (by (try show Ex _ _); repeat (first | (with_reducible exact ex_refl _) | (with_reducible assumption) | (with_reducible refine ex_drewL ?_) | (with_reducible refine ex_appR ?_ _) | (with_reducible refine ex_wx ?_ _) | (with_reducible refine ex_drew ?_) | (with_reducible refine ex_alloc ?_ _)))⟩
    have h1 := grownCap_ge w n 0 5
    refine owns_drew (owns_new (xs := []) rfl (Nat.le_refl _) (Nat.zero_le _) (grownCap_le_maxLen w n 0 5 (by unfold maxLen; omega)) ?_ (by simp))
    rw [Array.size_append]
    have := manyC_size (.int .u8 0)
    unfold manyC madeCells at this
    simp [Builtin.zeroCells]
    omega
def catL (L : Nat → List UInt8) (n : Nat) : List UInt8 := (List.range n).flatMap L
theorem catL_succ (L : Nat → List UInt8) (n : Nat) : catL L (n + 1) = catL L n ++ L n := by
  unfold catL; rw [List.range_succ, List.flatMap_append]; simp
/-- **Concat**, a row of its own. -/
theorem concat_own (a : Option Addr) (n c : Nat) (V : Nat → Value) (L : Nat → List UInt8) (w : World) (hn : n ≤ c) (hc : c ≤ maxLen) (hs : SlV w a n V) (hV : ∀ i, i < n → SlS w (V i) (L i)) (hlen : ∀ k, k ≤ n → (catL L k).length ≤ 140737488355328) :
    Calls Tryd.prog 54 #[.slice a n c] w fun e w' => ∃ v, e = .returned v ∧ w'.ownsRow w.heap.size 5 1 v (catL L n).length (Lib.byteCells (catL L n)) ∧ Ex w w' := by
  unfold maxLen at hc
  have HV : Hid (∀ i, i < n → SlS w (V i) (L i)) := Lib.hid hV
  have HL : Hid (∀ k, k ≤ n → (catL L k).length ≤ 140737488355328) := Lib.hid hlen
  clear hV hlen
  go_enter Tryd.func54, Tryd.ntmps54
  go_wp2
  go_loopw [3, 11] (fun s i wr => ∃ k : Nat, k ≤ n ∧ s = I (catL L k).length ∧ i = I k ∧ wr = w) (fun _ i _ => n - (intOf i).toNat)
  case atStart => exact ⟨0, by omega, rfl, rfl, rfl⟩
  case round =>
    obtain ⟨k, hk, rfl, rfl, rfl⟩ := hrel
    by_cases hlt : k < n
    · obtain ⟨g, off, rfl, hg, hcell⟩ := hs.pos (by omega)
      have h1 := hcell k hlt
      obtain ⟨ad, c2, hv, _⟩ := (HV.out k hlt).out
      rw [hv] at h1
      clear hcell hv
      have hl1 := HL.out (k + 1) (by omega)
      rw [catL_succ, List.length_append] at hl1
      have hneg : ¬ ((catL L k).length : Int) + (L k).length < 0 := by omega
      go_wp2
      refine ⟨⟨k + 1, by omega, ?_, by go_num, by trivial⟩, by simp [intOf]; omega⟩
      rw [catL_succ, List.length_append]; go_num
    · obtain rfl : k = n := by omega
      have hl1 := HL.out k (by omega)
      clear hlt hk
      go_wp2_with (go_at_call 80; refine (grow_nil _ _ hl1).mono ?_; rintro e w' ⟨v, rfl, hown, X, rfl⟩)
      go_loopw [6, 27] (fun v i W2 => ∃ q : Nat, q ≤ k ∧ i = I q ∧ W2.ownsRow wr.heap.size 5 1 v (catL L q).length (Lib.byteCells (catL L q)) ∧ Ex wr W2) (fun _ i _ => k - (intOf i).toNat)
      case atStart => exact ⟨0, by omega, rfl, hown, (by (try show Ex _ _); repeat (first | (with_reducible exact ex_refl _) | (with_reducible assumption) | (with_reducible refine ex_drewL ?_) | (with_reducible refine ex_appR ?_ _) | (with_reducible refine ex_wx ?_ _) | (with_reducible refine ex_drew ?_) | (with_reducible refine ex_alloc ?_ _)))⟩
      case round =>
        obtain ⟨q, hq, rfl, hown, X2, rfl⟩ := hrel
        by_cases hlt : q < k
        · obtain ⟨g, off, rfl, hg, hcell⟩ := hs.pos (by omega)
          have h1 := hcell q hlt
          obtain ⟨ad, c2, hv, k1, k2, k3⟩ := (HV.out q hlt).out
          rw [hv] at h1
          clear hcell hv
          have hl2 := HL.out (q + 1) (by omega)
          rw [catL_succ, List.length_append] at hl2
          have HNEWS := Lib.hid (sll_news k3 (w' := wx wr X2) ⟨X2, rfl⟩)
          go_wp2_with (at_builtin; refine wpApp appu8 _ _ rfl rfl hown rfl ad (L q).length c2 (Lib.byteCells (L q)) rfl (by rw [bytes_len, Nat.mul_one]) HNEWS.out (bytes_one _) (by unfold maxLen; omega) (by omega) (by simp [go_sem]) (fun v' w1 hown2 hbe => ?_))
          refine ⟨⟨q + 1, by omega, by go_num, ?_, ex_of_below ((ex_below (by (try show Ex _ _); repeat (first | (with_reducible exact ex_refl _) | (with_reducible assumption) | (with_reducible refine ex_drewL ?_) | (with_reducible refine ex_appR ?_ _) | (with_reducible refine ex_wx ?_ _) | (with_reducible refine ex_drew ?_) | (with_reducible refine ex_alloc ?_ _)))).trans hbe)⟩, by simp [intOf]; omega⟩
          rw [catL_succ, List.length_append, ← bytes_app]
          exact hown2
        · obtain rfl : q = k := by omega
          clear hlt hq
          go_wp2
          go_ret
          exact ⟨_, rfl, hown, (by (try show Ex _ _); repeat (first | (with_reducible exact ex_refl _) | (with_reducible assumption) | (with_reducible refine ex_drewL ?_) | (with_reducible refine ex_appR ?_ _) | (with_reducible refine ex_wx ?_ _) | (with_reducible refine ex_drew ?_) | (with_reducible refine ex_alloc ?_ _)))⟩
/-- **Concat.** -/
theorem concat_any (a : Option Addr) (n c : Nat) (V : Nat → Value) (L : Nat → List UInt8) (w : World) (hn : n ≤ c) (hc : c ≤ maxLen) (hs : SlV w a n V) (hV : ∀ i, i < n → SlS w (V i) (L i)) (hlen : ∀ k, k ≤ n → (catL L k).length ≤ 140737488355328) :
    Calls Tryd.prog 54 #[.slice a n c] w (PostT w (catL L n)) :=
  (concat_own a n c V L w hn hc hs hV hlen).mono fun e w' ⟨v, h1, h2, h3⟩ => ⟨v, h1, owns_slt h2, h3⟩
def at3 {α : Type} (x y z : α) (i : Nat) : α := if i = 0 then x else if i = 1 then y else z
theorem cat3 (x y z : List UInt8) : catL (at3 x y z) 3 = x ++ (y ++ z) := by
  rw [catL_succ, catL_succ, catL_succ]; simp [catL, at3]
theorem concat3 {W W2 : World} {g : Nat} {t : TypeId} {v0 v1 v2 : Value} {x y z : List UInt8} (k : Ex (W.alloc (.cells #[v0, v1, v2] t)) W2) (hg : g = W.heap.size) (h0 : SlS W2 v0 x) (h1 : SlS W2 v1 y) (h2 : SlS W2 v2 z) (hl : x.length + (y.length + z.length) ≤ 140737488355328) :
    Calls Tryd.prog 54 #[.slice (some ⟨g, 0, none⟩) 3 3] W2 (PostT W2 (x ++ (y ++ z))) := by
  subst hg
  rw [← cat3]
  have hb := ex_block k (heap_alloc_new W (.cells #[v0, v1, v2] t))
  refine concat_any _ 3 3 (at3 v0 v1 v2) (at3 x y z) _ (by omega) (by decide) ⟨Or.inr ⟨_, 0, rfl, (Array.getElem?_eq_some_iff.1 hb).1, fun i hi => ?_⟩⟩ (fun i hi => ?_) (fun q hq => ?_)
  · rw [Nat.zero_add, cell_of_row _ W.heap.size i _ _ _ hb]
    have : i = 0 ∨ i = 1 ∨ i = 2 := by omega
    rcases this with rfl | rfl | rfl <;> rfl
  · have : i = 0 ∨ i = 1 ∨ i = 2 := by omega
    rcases this with rfl | rfl | rfl
    · exact h0
    · exact h1
    · exact h2
  · have : q = 0 ∨ q = 1 ∨ q = 2 ∨ q = 3 := by omega
    rcases this with rfl | rfl | rfl | rfl <;> simp [catL, at3, List.range_succ] <;> omega
end Go.Proofs.YtpcfkjeikhehaaaDoor

/- Sealed bytes; Encode. -/
set_option linter.unusedSimpArgs false
set_option linter.unusedVariables false
set_option maxRecDepth 20000
namespace Go.Proofs.YtpcfkjeikhehaaaDoor
open Go.RowKit
def sealL (l : List UInt8) : List UInt8 := (bytesD (sumD l)).take 16 ++ l
theorem seal_len (l : List UInt8) : (sealL l).length = 16 + l.length := by unfold sealL; simp [bytesD_len]
def at2 {α : Type} (x y : α) (i : Nat) : α := if i = 0 then x else y
theorem cat2 (x y : List UInt8) : catL (at2 x y) 2 = x ++ y := by
  rw [catL_succ, catL_succ]; simp [catL, at2]
theorem concat2 {W W2 : World} {g : Nat} {t : TypeId} {v0 v1 : Value} {x y : List UInt8} (k : Ex (W.alloc (.cells #[v0, v1] t)) W2) (hg : g = W.heap.size) (h0 : SlS W2 v0 x) (h1 : SlS W2 v1 y) (hl : x.length + y.length ≤ 140737488355328) :
    Calls Tryd.prog 54 #[.slice (some ⟨g, 0, none⟩) 2 2] W2 (PostOw W2 (x ++ y)) := by
  subst hg
  rw [← cat2]
  have hb := ex_block k (heap_alloc_new W (.cells #[v0, v1] t))
  refine concat_own _ 2 2 (at2 v0 v1) (at2 x y) _ (by omega) (by decide) ⟨Or.inr ⟨_, 0, rfl, (Array.getElem?_eq_some_iff.1 hb).1, fun i hi => ?_⟩⟩ (fun i hi => ?_) (fun q hq => ?_)
  · rw [Nat.zero_add, cell_of_row _ W.heap.size i _ _ _ hb]
    have : i = 0 ∨ i = 1 := by omega
    rcases this with rfl | rfl <;> rfl
  · have : i = 0 ∨ i = 1 := by omega
    rcases this with rfl | rfl
    · exact h0
    · exact h1
  · have : q = 0 ∨ q = 1 ∨ q = 2 := by omega
    rcases this with rfl | rfl | rfl <;> simp [catL, at2, List.range_succ] <;> omega
theorem gF_bytesD (d : Dg) (j : Nat) (hj : j < 16) : gF ((bytesD d).take 16) j = dF d j := by
  unfold gF bytesD
  rw [List.getD_eq_getElem?_getD, List.getElem?_take, if_pos hj, List.getElem?_map, List.getElem?_range (by omega)]; rfl
theorem sls_dg16 {w w' : World} {g : Nat} (d : Dg) {t : TypeId} (k : Ex (w.alloc (.cells (rowB 32 (dF d)) t)) w') (hg : g = w.heap.size) : SlS w' (.slice (some ⟨g, 0, none⟩) 16 32) ((bytesD d).take 16) := by
  subst hg
  have hl : ((bytesD d).take 16).length = 16 := by rw [List.length_take, bytesD_len]; rfl
  refine ⟨_, 32, by rw [hl], by rw [hl]; omega, by decide, SlL.ex (sll_block (heap_alloc_new _ _) fun j hj => ?_) k⟩
  rw [hl] at hj
  rw [rowB_get, if_pos (by omega), gF_bytesD d j hj]
set_option maxHeartbeats 1000000 in
theorem sealed_any (l : List UInt8) (v : Value) (w : World) (G : FGlob w) (hs : SlS w v l) (hl : l.length ≤ 1000000) :
    Calls Tryd.prog 31 #[v] w (PostOw w (sealL l)) := by
  have HS := Lib.hid hs
  obtain ⟨a, c, rfl, h1, h2, _⟩ := hs.out
  clear hs
  have h16 : ((bytesD (sumD l)).take 16).length = 16 := by rw [List.length_take, bytesD_len]; rfl
  have HF : Hid ((bytesD (sumD l)).take 16 ++ l = sealL l) := Lib.hid rfl
  go_enter Tryd.func31, Tryd.ntmps31
  go_wp2_with (first | (go_at_call 53; (with_reducible refine (sum_slt G.g (by (try show Ex _ _); repeat (first | (with_reducible exact ex_refl _) | (with_reducible assumption) | (with_reducible refine ex_drewL ?_) | (with_reducible refine ex_appR ?_ _) | (with_reducible refine ex_wx ?_ _) | (with_reducible refine ex_drew ?_) | (with_reducible refine ex_alloc ?_ _))) (HS.out.ex (by (try show Ex _ _); repeat (first | (with_reducible exact ex_refl _) | (with_reducible assumption) | (with_reducible refine ex_drewL ?_) | (with_reducible refine ex_appR ?_ _) | (with_reducible refine ex_wx ?_ _) | (with_reducible refine ex_drew ?_) | (with_reducible refine ex_alloc ?_ _)))).slt (by omega)).mono ?_); rintro e w2 ⟨rfl, X, rfl⟩) | (go_at_call 54; (with_reducible refine (concat2 (by (try show Ex _ _); repeat (first | (with_reducible exact ex_refl _) | (with_reducible assumption) | (with_reducible refine ex_drewL ?_) | (with_reducible refine ex_appR ?_ _) | (with_reducible refine ex_wx ?_ _) | (with_reducible refine ex_drew ?_) | (with_reducible refine ex_alloc ?_ _))) (by simp [go_sem]) (sls_dg16 (sumD l) (by (try show Ex _ _); repeat (first | (with_reducible exact ex_refl _) | (with_reducible assumption) | (with_reducible refine ex_drewL ?_) | (with_reducible refine ex_appR ?_ _) | (with_reducible refine ex_wx ?_ _) | (with_reducible refine ex_drew ?_) | (with_reducible refine ex_alloc ?_ _))) (by simp [go_sem])) (HS.out.ex (by (try show Ex _ _); repeat (first | (with_reducible exact ex_refl _) | (with_reducible assumption) | (with_reducible refine ex_drewL ?_) | (with_reducible refine ex_appR ?_ _) | (with_reducible refine ex_wx ?_ _) | (with_reducible refine ex_drew ?_) | (with_reducible refine ex_alloc ?_ _)))) (by omega)).mono ?_); rintro e w2 ⟨v2, rfl, hO, X2, rfl⟩))
  go_ret
  refine ⟨_, rfl, ?_, (by (try show Ex _ _); repeat (first | (with_reducible exact ex_refl _) | (with_reducible assumption) | (with_reducible refine ex_drewL ?_) | (with_reducible refine ex_appR ?_ _) | (with_reducible refine ex_wx ?_ _) | (with_reducible refine ex_drew ?_) | (with_reducible refine ex_alloc ?_ _)))⟩
  rw [← HF.out]
  exact owns_low hO (by simp [go_sem] <;> omega)
theorem opt_len (c : Bool) (l : List UInt8) : (optL c l).length ≤ l.length := by cases c <;> simp [optL]
theorem plain_len {m : Ms} (h : rightM m = true) : (plainM m).length ≤ 100000 := by
  obtain ⟨⟨a1, a2⟩, zx, ⟨a3, a4, a5, a6⟩, a7, a8, a9, a10, a11⟩ := rightM_spec h
  have h1 := shortL_len (u64_toNat m.tm)
  have h2 := shortL_len (u64_toNat m.pi)
  have h3 := shortL_len (u64_toNat m.pt)
  have h4 := shortL_len (u64_toNat m.cm)
  have h5 := shortL_len (x := m.es.length) (by omega)
  have h6 := shortL_len (x := m.mb.length) (by omega)
  have h7 := shortL_len (x := m.da.length) (by omega)
  have h8 := ents_len _ _ a11
  have o1 := opt_len (hasO m.kd) [boolL m.ok]
  have o2 := opt_len (hasP m.kd) (shortL m.pi.toNat ++ shortL m.pt.toNat)
  have o3 := opt_len (hasC m.kd) (shortL m.cm.toNat)
  have o4 := opt_len (hasE m.kd) (shortL m.es.length ++ entsL m.pt m.es)
  have o5 := opt_len (hasM m.kd) (shortL m.mb.length ++ m.mb.map byteI)
  have o6 := opt_len (hasD m.kd) (shortL m.da.length ++ m.da)
  simp only [List.length_append, List.length_map, List.length_singleton] at o1 o2 o3 o4 o5 o6
  simp only [plainM, List.length_append, List.length_cons, List.length_nil]
  omega
theorem plain_ne (m : Ms) : plainM m ≠ [] := by unfold plainM; simp
def PostE (W : World) (m : Ms) (e : Ending) (w' : World) : Prop := ∃ v, e = .returned (.tuple #[v, I (errC (rightM m))]) ∧ (rightM m = true → OwnL w' W.heap.size v (sealL (plainM m))) ∧ (rightM m = false → v = .slice none 0 0) ∧ Ex W w'
set_option maxHeartbeats 1000000 in
theorem encode_any (m : Ms) (v : Value) (w : World) (G : FGlob w) (hs : MsV w v m) (he : m.es.length ≤ 1000) :
    Calls Tryd.prog 17 #[v] w (PostE w m) := by
  have HC := Lib.hid (fun w' (k : Ex w w') => check_any m v w' (G.ex k) (hs.ex k) he)
  have HP := Lib.hid (fun w' (k : Ex w w') (hr : rightM m = true) => plain_any m v w' (G.ex k) (hs.ex k) hr)
  obtain ⟨ev, mv, dv, rfl, h1, h2, h3⟩ := hs.out
  have HL : Hid (rightM m = true → (plainM m).length ≤ 1000000) := Lib.hid fun h => by have := plain_len h; omega
  have HNE := Lib.hid (plain_ne m)
  unfold PostE
  generalize plainM m = pl at *
  cases hr : rightM m with
  | true =>
    rw [hr] at HC HP HL
    rw [show errC true = 0 from rfl] at HC
    have HP2 := Lib.hid (fun w' k => HP.out w' k rfl)
    have HL2 := Lib.hid (HL.out rfl)
    clear h1 h2 h3 HP HL
    go_enter Tryd.func17, Tryd.ntmps17
    go_wp2_with (first | (go_at_call 18; (with_reducible refine (HC.out _ (by (try show Ex _ _); repeat (first | (with_reducible exact ex_refl _) | (with_reducible assumption) | (with_reducible refine ex_drewL ?_) | (with_reducible refine ex_appR ?_ _) | (with_reducible refine ex_wx ?_ _) | (with_reducible refine ex_drew ?_) | (with_reducible refine ex_alloc ?_ _)))).mono ?_); rintro e w2 ⟨rfl, X, rfl⟩) | (go_at_call 32; (with_reducible refine (HP2.out _ (by (try show Ex _ _); repeat (first | (with_reducible exact ex_refl _) | (with_reducible assumption) | (with_reducible refine ex_drewL ?_) | (with_reducible refine ex_appR ?_ _) | (with_reducible refine ex_wx ?_ _) | (with_reducible refine ex_drew ?_) | (with_reducible refine ex_alloc ?_ _)))).mono ?_); rintro e w2 ⟨v2, rfl, hO, X2, rfl⟩; (try simp only [wx_wx, wx_drew] at hO)) | (go_at_call 31; (with_reducible refine (sealed_any _ _ _ (G.ex (by (try show Ex _ _); repeat (first | (with_reducible exact ex_refl _) | (with_reducible assumption) | (with_reducible refine ex_drewL ?_) | (with_reducible refine ex_appR ?_ _) | (with_reducible refine ex_wx ?_ _) | (with_reducible refine ex_drew ?_) | (with_reducible refine ex_alloc ?_ _)))) ((OwnL.ex hO (by (try show Ex _ _); repeat (first | (with_reducible exact ex_refl _) | (with_reducible assumption) | (with_reducible refine ex_drewL ?_) | (with_reducible refine ex_appR ?_ _) | (with_reducible refine ex_wx ?_ _) | (with_reducible refine ex_drew ?_) | (with_reducible refine ex_alloc ?_ _)))).sls HNE.out) HL2.out).mono ?_); rintro e w2 ⟨v3, rfl, hO3, X3, rfl⟩; (try simp only [wx_wx, wx_drew] at hO3)))
    go_ret2
    refine ⟨_, rfl, fun _ => ?_, fun h => by simp at h, (by (try show Ex _ _); repeat (first | (with_reducible exact ex_refl _) | (with_reducible assumption) | (with_reducible refine ex_drewL ?_) | (with_reducible refine ex_appR ?_ _) | (with_reducible refine ex_wx ?_ _) | (with_reducible refine ex_drew ?_) | (with_reducible refine ex_alloc ?_ _)))⟩
    exact owns_low hO3 (by simp [go_sem] <;> omega)
  | false =>
    rw [hr] at HC
    rw [show errC false = 170 from rfl] at HC
    clear h1 h2 h3 HP HL
    go_enter Tryd.func17, Tryd.ntmps17
    go_wp2_with (first | (go_at_call 18; (with_reducible refine (HC.out _ (by (try show Ex _ _); repeat (first | (with_reducible exact ex_refl _) | (with_reducible assumption) | (with_reducible refine ex_drewL ?_) | (with_reducible refine ex_appR ?_ _) | (with_reducible refine ex_wx ?_ _) | (with_reducible refine ex_drew ?_) | (with_reducible refine ex_alloc ?_ _)))).mono ?_); rintro e w2 ⟨rfl, X, rfl⟩))
    go_ret2
    exact ⟨_, rfl, fun h => by simp at h, fun _ => rfl, (by (try show Ex _ _); repeat (first | (with_reducible exact ex_refl _) | (with_reducible assumption) | (with_reducible refine ex_drewL ?_) | (with_reducible refine ex_appR ?_ _) | (with_reducible refine ex_wx ?_ _) | (with_reducible refine ex_drew ?_) | (with_reducible refine ex_alloc ?_ _)))⟩
end Go.Proofs.YtpcfkjeikhehaaaDoor

/- wakes of the frame's laws. -/
set_option linter.unusedSimpArgs false
set_option linter.unusedVariables false
set_option maxRecDepth 20000
namespace Go.Proofs.YtpcfkjeikhehaaaDoor
open Go.RowKit
def m0 : Ms := ⟨2, 1, 2, 300, 0, 0, [], 0, true, [], []⟩
theorem m0_right : rightM m0 = true := by decide
theorem short_300 : shortL 300 = [130, 44] := by
  unfold shortL
  rw [show 300 / 128 = 2 from rfl, upL_pos (by decide), show 2 / 128 = 0 from rfl, upL_zero]; rfl
theorem m0_plain : plainM m0 = [2, 18, 130, 44, 1] := by
  show [byteI 2, byteI 18] ++ shortL 300 ++ [1] ++ _ ++ _ ++ _ ++ _ ++ _ = _
  rw [short_300]; rfl
theorem seal_at (l : List UInt8) (i : Nat) : gF (sealL l) (16 + i) = gF l i := by
  have h16 : ((bytesD (sumD l)).take 16).length = 16 := by rw [List.length_take, bytesD_len]; rfl
  unfold gF sealL
  rw [List.getD_eq_getElem?_getD, List.getD_eq_getElem?_getD, List.getElem?_append_right (by omega), h16, Nat.add_sub_cancel_left]
theorem short_top : (shortL 9223372036854775808).length = 10 := by
  unfold shortL
  rw [List.length_append]
  have h : (upL 72057594037927936).length = 9 := by
    rw [upL_pos (by decide), show 72057594037927936 / 128 = 562949953421312 from rfl, upL_pos (by decide), show 562949953421312 / 128 = 4398046511104 from rfl, upL_pos (by decide), show 4398046511104 / 128 = 34359738368 from rfl, upL_pos (by decide),
      show 34359738368 / 128 = 268435456 from rfl, upL_pos (by decide), show 268435456 / 128 = 2097152 from rfl, upL_pos (by decide), show 2097152 / 128 = 16384 from rfl, upL_pos (by decide), show 16384 / 128 = 128 from rfl, upL_pos (by decide), show 128 / 128 = 1 from rfl, upL_pos (by decide), show 1 / 128 = 0 from rfl, upL_zero]; rfl
  rw [show 9223372036854775808 / 128 = 72057594037927936 from rfl, h]; rfl
theorem long_300 : longL [130, 44, 7] = some (300, 2) := by
  have := long_short 300 [7] (by decide)
  rw [short_300] at this
  exact this
theorem slg_nil (w : World) : SlG w (.slice none 0 0) [] := ⟨none, 0, rfl, by simp, by decide, fun _ => rfl, ⟨Or.inl rfl⟩⟩
theorem slz_nil (w : World) : SlZ w (.slice none 0 0) [] := ⟨none, 0, rfl, by simp, by decide, fun _ => rfl, ⟨Or.inl rfl⟩⟩
theorem m0_val (w : World) : MsV w (.agg #[I 2, I 1, I 2, .int .u64 300, .int .u64 0, .int .u64 0, .slice none 0 0, .int .u64 0, .bool true, .slice none 0 0, .slice none 0 0]) m0 :=
  ⟨_, _, _, rfl, slg_nil w, slz_nil w, slt_nil w⟩
theorem enc0_any (w : World) (G : FGlob w) : Calls Tryd.prog 17 #[.agg #[I 2, I 1, I 2, .int .u64 300, .int .u64 0, .int .u64 0, .slice none 0 0, .int .u64 0, .bool true, .slice none 0 0, .slice none 0 0]] w
    fun e w' => ∃ g off c, e = .returned (.tuple #[.slice (some ⟨g, off, none⟩) 21 c, I 0]) ∧ 21 ≤ c ∧ g < w'.heap.size ∧ w'.cell? ⟨g, off + 17, none⟩ = some (.int .u8 18) ∧ w'.cell? ⟨g, off + 20, none⟩ = some (.int .u8 1) ∧ Ex w w' := by
  refine (encode_any m0 _ w G (m0_val w) (by decide)).mono ?_
  rintro e w' ⟨v, rfl, h1, _, k⟩
  have h2 := (h1 m0_right).slt
  rw [m0_right, m0_plain] at *
  have hl : (sealL [2, 18, 130, 44, 1]).length = 21 := by rw [seal_len]; rfl
  obtain ⟨a, c, rfl, k1, k2, k3, k4⟩ := h2.out
  obtain ⟨g, off, rfl, g1, g2⟩ := k4.row (i := 17) (by rw [hl]; decide)
  obtain ⟨g', off', hg, _, g3⟩ := k4.row (i := 20) (by rw [hl]; decide)
  obtain ⟨rfl, rfl⟩ : g = g' ∧ off = off' := by simpa using hg
  rw [seal_at _ 1] at g2
  rw [seal_at _ 4] at g3
  rw [hl] at k1
  exact ⟨g, off, c, by rw [hl]; rfl, k1, g1, g2, g3, k⟩
theorem slt_three {w w' : World} {t : TypeId} (k : Ex (w.alloc (.cells #[.int .u8 130, .int .u8 44, .int .u8 7] t)) w') : SlT w' (.slice (some ⟨w.heap.size, 0, none⟩) 3 3) [130, 44, 7] := by
  refine ⟨_, 3, rfl, by simp, by decide, (fun h => by cases h), SlL.ex (sll_block (heap_alloc_new _ _) fun j hj => ?_) k⟩
  have : j = 0 ∨ j = 1 ∨ j = 2 := by simp at hj; omega
  rcases this with rfl | rfl | rfl <;> rfl
set_option maxHeartbeats 1000000 in
theorem wakes_any (w : World) (G : FGlob w) : Calls Tryd.prog 9 #[] w (Post w (.bool true)) := by
  have HE := Lib.hid (fun w' (k : Ex w w') => enc0_any w' (G.ex k))
  have HL : Hid (∀ v w', SlT w' v [130, 44, 7] → Calls Tryd.prog 13 #[v] w' (Post w' (.tuple #[.int .u64 300, I 2, .bool true]))) := Lib.hid (fun v w' hs => by
    have h9 := long_any [130, 44, 7] v w' hs
    rw [long_300] at h9
    exact h9)
  have HS : Hid (∀ w', Calls Tryd.prog 11 #[.int .u64 9223372036854775808] w' (PostOw w' (shortL 9223372036854775808))) := Lib.hid (fun w' => short_any 9223372036854775808 w' (by decide))
  go_enter Tryd.func9, Tryd.ntmps9
  go_wp2_with (go_at_call 17; (with_reducible refine (HE.out _ (by (try show Ex _ _); repeat (first | (with_reducible exact ex_refl _) | (with_reducible assumption) | (with_reducible refine ex_drewL ?_) | (with_reducible refine ex_appR ?_ _) | (with_reducible refine ex_wx ?_ _) | (with_reducible refine ex_drew ?_) | (with_reducible refine ex_alloc ?_ _)))).mono ?_); rintro e w2 ⟨g, off, c, rfl, h1, h2, h3, h4, K2⟩)
  go_wp2_with (go_at_call 13; (with_reducible refine (HL.out _ _ (slt_three (by (try show Ex _ _); repeat (first | (with_reducible exact ex_refl _) | (with_reducible assumption) | (with_reducible refine ex_drewL ?_) | (with_reducible refine ex_appR ?_ _) | (with_reducible refine ex_wx ?_ _) | (with_reducible refine ex_drew ?_) | (with_reducible refine ex_alloc ?_ _))))).mono ?_); rintro e w3 ⟨rfl, X3, rfl⟩)
  go_wp2_with (go_at_call 11; (with_reducible refine (HS.out _).mono ?_); rintro e w3 ⟨s, rfl, hS, X4, rfl⟩; obtain ⟨a9, c9, hv9, _⟩ := own_form hS; (rw [short_top] at hv9); subst hv9)
  go_ret
  exact post_mk rfl (by (try show Ex _ _); repeat (first | (with_reducible exact ex_refl _) | (with_reducible assumption) | (with_reducible refine ex_drewL ?_) | (with_reducible refine ex_appR ?_ _) | (with_reducible refine ex_wx ?_ _) | (with_reducible refine ex_drew ?_) | (with_reducible refine ex_alloc ?_ _)))
end Go.Proofs.YtpcfkjeikhehaaaDoor

/- How a row's data open: numbers, rows of bytes. -/
set_option linter.unusedSimpArgs false
set_option linter.unusedVariables false
set_option maxRecDepth 20000
namespace Go.Proofs.YtpcfkjeikhehaaaDoor
open Go.RowKit Go.ChangeShapes Go.WideShapes Go.ChangeAt
def listF (n : Nat) (f : Nat → UInt8) : List UInt8 := (List.range n).map f
theorem listF_len (n : Nat) (f : Nat → UInt8) : (listF n f).length = n := by simp [listF]
theorem listF_at (n : Nat) (f : Nat → UInt8) (i : Nat) (h : i < n) : gF (listF n f) i = f i := by
  unfold gF listF; rw [List.getD_eq_getElem?_getD, List.getElem?_map, List.getElem?_range h]; rfl
theorem slt_of_ok {e : SlE} {w : World} (h : e.ok w) : SlT w e.v (listF e.n e.f) := by
  refine ⟨e.a, e.c, by rw [listF_len]; rfl, by rw [listF_len]; exact h.nc, h.cm, h.nil, ?_⟩
  unfold SlL
  rw [listF_len]
  exact SlB.congr h.at' fun i hi => (listF_at _ _ i hi).symm
theorem SlT.take {w : World} {a : Option Addr} {n c : Nat} {l : List UInt8} (h : SlT w (.slice a n c) l) (k : Nat) (hk : k ≤ l.length) : SlT w (.slice a k c) (l.take k) := by
  obtain ⟨a', c', hv, h1, h2, h3, h4⟩ := h.out
  obtain ⟨rfl, rfl, rfl⟩ : a = a' ∧ n = l.length ∧ c = c' := by simpa using hv
  refine ⟨a, c, by rw [List.length_take, Nat.min_eq_left hk], by rw [List.length_take]; omega, h2, h3, ?_⟩
  unfold SlL at h4 ⊢
  rw [List.length_take, Nat.min_eq_left hk]
  rcases h4.out with h0 | ⟨g, off, h5, h6, h7⟩
  · obtain rfl : k = 0 := by omega
    exact SlB.zero _ _ _
  · subst h5
    refine SlB.mk' h6 fun j hj => ?_
    rw [h7 j (by omega)]
    unfold gF
    rw [List.getD_eq_getElem?_getD, List.getD_eq_getElem?_getD, List.getElem?_take, if_pos hj]
section
variable {H : Type} {enc : TypeId × Value → H} {w : World} {base : Nat} {sp : Nat → Bool} {held : Bool}
theorem c1u64 : Tryd.prog.cellsOf 25 = 1 := by kernel_rfl
theorem c1rb : Tryd.prog.cellsOf 27 = 1 := by kernel_rfl
theorem u64_of_trod {fuel : Nat} {cs : List Value} {x : DataW H × List MemPlace} (h : DataW.trod enc Tryd.prog w base sp held fuel 25 cs = some x) : ∃ y : UInt64, cs = [L y] := by
  obtain ⟨z, rfl, _, hw⟩ := DataW.trod_int Tryd.underlying25 h
  simp only [Lit.wf, Bool.and_eq_true, decide_eq_true_eq] at hw
  obtain ⟨y, rfl⟩ := ln_of z (by simp [IntKind.min, IntKind.max, IntKind.bits, IntKind.signed] at hw; omega)
  exact ⟨y, rfl⟩
theorem argU64s {b0 : Nat} {r : Reach} {v : Value} {d : DataW H} {p : List MemPlace} (h : Value.okWide Tryd.prog w r b0 22 v) (hd : DataW.Trod enc Tryd.prog w base sp held 22 v d p) :
    ∃ (a : Option Addr) (n c : Nat) (E : Nat → UInt64), v = .slice a n c ∧ n ≤ c ∧ c ≤ maxLen ∧ (a = none → c = 0) ∧ SlV w a n (fun i => L (E i)) := by
  obtain ⟨fuel, x, hx⟩ := arg_slice Tryd.underlying22 h hd
  obtain ⟨a, n, c, E, h1, h2, h3, h4, h5⟩ := elems_open (fun y : UInt64 => #[L y]) (fun _ => rfl) Tryd.underlying22 c1u64 (by decide) (fun _ _ _ h => u64_of_trod h) hx
  refine ⟨a, n, c, E, by simpa using h1, h2, h3, h4, ?_⟩
  rcases h5.out with h0 | ⟨g, off, h6, h7, h8⟩
  · exact ⟨Or.inl h0⟩
  · refine ⟨Or.inr ⟨g, off, h6, h7, fun i hi => ?_⟩⟩
    have := (cellsN_some.1 (h8 i hi)).2 0 (Nat.zero_lt_one)
    simpa using this
theorem argRows {b0 : Nat} {r : Reach} {v : Value} {d : DataW H} {p : List MemPlace} (h : Value.okWide Tryd.prog w r b0 23 v) (hd : DataW.Trod enc Tryd.prog w base sp held 23 v d p) :
    ∃ (a : Option Addr) (n c : Nat) (E : Nat → SlE), v = .slice a n c ∧ n ≤ c ∧ c ≤ maxLen ∧ (a = none → c = 0) ∧ SlV w a n (fun i => (E i).v) ∧ ∀ i, i < n → (E i).ok w := by
  obtain ⟨fuel, x, hx⟩ := arg_slice Tryd.underlying23 h hd
  obtain ⟨a, n, c, E, hv, h⟩ := rows_open Tryd.underlying23 Tryd.underlying27 Tryd.underlying5 c1rb cb hx
  exact ⟨a, n, c, E, by simpa using hv, h⟩
theorem argBytes {b0 : Nat} {r : Reach} {v : Value} {d : DataW H} {p : List MemPlace} (h : Value.okWide Tryd.prog w r b0 27 v) (hd : DataW.Trod enc Tryd.prog w base sp held 27 v d p) : ∃ l, SlT w v l := by
  obtain ⟨fuel, x, hx⟩ := arg_slice Tryd.underlying27 h hd
  obtain ⟨a, n, c, f, hv, h1, h2, h3, h4⟩ := slB_open Tryd.underlying27 Tryd.underlying5 cb hx
  obtain rfl : v = .slice a n c := by simpa using hv
  exact ⟨_, slt_of_ok (e := ⟨a, n, c, f⟩) ⟨h1, h2, h3, h4⟩⟩
end
end Go.Proofs.YtpcfkjeikhehaaaDoor

/- Clones of bytes, in memory of their own. -/
set_option linter.unusedSimpArgs false
set_option linter.unusedVariables false
set_option maxRecDepth 20000
namespace Go.Proofs.YtpcfkjeikhehaaaDoor
open Go.RowKit
theorem ownl_empty {w w' : World} {Z g : Nat} (k : Ex (w.alloc (.cells #[] 5)) w') (hg : g = w.heap.size) (hZ : Z ≤ w.heap.size) : OwnL w' Z (.slice (some ⟨g, 0, none⟩) 0 0) [] := by
  subst hg
  exact owns_ex (owns_new (n := 0) (cap := 0) rfl hZ (by omega) (by decide) (by simp) (by simp [Lib.byteCells])) k
theorem cloneB_any (l : List UInt8) (v : Value) (w : World) (hs : SlT w v l) (hl : l.length ≤ 1000000) : Calls Tryd.prog 15 #[v] w (PostOw w l) := by
  obtain ⟨a, c, rfl, h1, h2, h3, h4⟩ := id hs.out
  have HS := Lib.hid hs
  clear hs h4
  cases a with
  | none =>
    obtain rfl := h3 rfl
    obtain rfl : l = [] := List.eq_nil_of_length_eq_zero (by omega)
    rw [List.length_nil]
    go_enter Tryd.func15, Tryd.ntmps15
    go_wp2
    go_ret
    exact ⟨_, rfl, ownl_nil _ _, (by (try show Ex _ _); repeat (first | (with_reducible exact ex_refl _) | (with_reducible assumption) | (with_reducible refine ex_drewL ?_) | (with_reducible refine ex_appR ?_ _) | (with_reducible refine ex_wx ?_ _) | (with_reducible refine ex_drew ?_) | (with_reducible refine ex_alloc ?_ _)))⟩
  | some ad =>
    clear h3
    go_enter Tryd.func15, Tryd.ntmps15
    go_wp2_with (at_builtin; refine wpAppT (Z := w.heap.size) _ _ rfl rfl (ownl_empty (by (try show Ex _ _); repeat (first | (with_reducible exact ex_refl _) | (with_reducible assumption) | (with_reducible refine ex_drewL ?_) | (with_reducible refine ex_appR ?_ _) | (with_reducible refine ex_wx ?_ _) | (with_reducible refine ex_drew ?_) | (with_reducible refine ex_alloc ?_ _))) (by simp [go_sem]) (by simp [go_sem])) rfl rfl (HS.out.ex (by (try show Ex _ _); repeat (first | (with_reducible exact ex_refl _) | (with_reducible assumption) | (with_reducible refine ex_drewL ?_) | (with_reducible refine ex_appR ?_ _) | (with_reducible refine ex_wx ?_ _) | (with_reducible refine ex_drew ?_) | (with_reducible refine ex_alloc ?_ _)))) (by simp; omega) (by simp [go_sem]) (fun v1 w1 hown hA => ?_))
    go_ret
    refine ⟨v1, rfl, by simpa using hown, hA.ex (A := w) (by (try show Ex _ _); repeat (first | (with_reducible exact ex_refl _) | (with_reducible assumption) | (with_reducible refine ex_drewL ?_) | (with_reducible refine ex_appR ?_ _) | (with_reducible refine ex_wx ?_ _) | (with_reducible refine ex_drew ?_) | (with_reducible refine ex_alloc ?_ _))) (ownl_empty (by (try show Ex _ _); repeat (first | (with_reducible exact ex_refl _) | (with_reducible assumption) | (with_reducible refine ex_drewL ?_) | (with_reducible refine ex_appR ?_ _) | (with_reducible refine ex_wx ?_ _) | (with_reducible refine ex_drew ?_) | (with_reducible refine ex_alloc ?_ _))) (by simp [go_sem]) (by simp [go_sem]))⟩
theorem cloneS_any (l : List UInt8) (v : Value) (w : World) (hs : SlT w v l) (hl : l.length ≤ 1000000) : Calls Tryd.prog 24 #[v] w (PostOw w l) := by
  obtain ⟨a, c, rfl, h1, h2, h3, h4⟩ := id hs.out
  have HS := Lib.hid hs
  clear hs h4
  cases a with
  | none =>
    obtain rfl := h3 rfl
    obtain rfl : l = [] := List.eq_nil_of_length_eq_zero (by omega)
    rw [List.length_nil]
    go_enter Tryd.func24, Tryd.ntmps24
    go_wp2
    go_ret
    exact ⟨_, rfl, ownl_nil _ _, (by (try show Ex _ _); repeat (first | (with_reducible exact ex_refl _) | (with_reducible assumption) | (with_reducible refine ex_drewL ?_) | (with_reducible refine ex_appR ?_ _) | (with_reducible refine ex_wx ?_ _) | (with_reducible refine ex_drew ?_) | (with_reducible refine ex_alloc ?_ _)))⟩
  | some ad =>
    clear h3
    go_enter Tryd.func24, Tryd.ntmps24
    go_wp2_with (at_builtin; refine wpAppT (Z := w.heap.size) _ _ rfl rfl (ownl_empty (by (try show Ex _ _); repeat (first | (with_reducible exact ex_refl _) | (with_reducible assumption) | (with_reducible refine ex_drewL ?_) | (with_reducible refine ex_appR ?_ _) | (with_reducible refine ex_wx ?_ _) | (with_reducible refine ex_drew ?_) | (with_reducible refine ex_alloc ?_ _))) (by simp [go_sem]) (by simp [go_sem])) rfl rfl (HS.out.ex (by (try show Ex _ _); repeat (first | (with_reducible exact ex_refl _) | (with_reducible assumption) | (with_reducible refine ex_drewL ?_) | (with_reducible refine ex_appR ?_ _) | (with_reducible refine ex_wx ?_ _) | (with_reducible refine ex_drew ?_) | (with_reducible refine ex_alloc ?_ _)))) (by simp; omega) (by simp [go_sem]) (fun v1 w1 hown hA => ?_))
    go_ret
    refine ⟨v1, rfl, by simpa using hown, hA.ex (A := w) (by (try show Ex _ _); repeat (first | (with_reducible exact ex_refl _) | (with_reducible assumption) | (with_reducible refine ex_drewL ?_) | (with_reducible refine ex_appR ?_ _) | (with_reducible refine ex_wx ?_ _) | (with_reducible refine ex_drew ?_) | (with_reducible refine ex_alloc ?_ _))) (ownl_empty (by (try show Ex _ _); repeat (first | (with_reducible exact ex_refl _) | (with_reducible assumption) | (with_reducible refine ex_drewL ?_) | (with_reducible refine ex_appR ?_ _) | (with_reducible refine ex_wx ?_ _) | (with_reducible refine ex_drew ?_) | (with_reducible refine ex_alloc ?_ _))) (by simp [go_sem]) (by simp [go_sem]))⟩
end Go.Proofs.YtpcfkjeikhehaaaDoor
