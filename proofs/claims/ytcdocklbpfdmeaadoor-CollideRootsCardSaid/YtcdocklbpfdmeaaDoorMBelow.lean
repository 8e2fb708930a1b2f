import Derived.Test.YtcdocklbpfdmeaaDoorMSRoot
import Derived.Lib.Strings
import Derived.Lib.Slices
import Derived.Lib.Walk
import Derived.Lib.Bytealg

/- How many pairs stand ahead of a key: the search by halves. -/
set_option linter.unusedSimpArgs false
set_option linter.unusedVariables false
set_option maxRecDepth 20000
namespace Go.Proofs.YtcdocklbpfdmeaaDoor
open Go.RowKit
/-! ### The law -/
theorem cmp_lt : ∀ x y : List UInt8, decide (Lib.compareBytes x y < 0) = Op.bytesLess x y
  | [], [] => rfl
  | [], _ :: _ => rfl
  | _ :: _, [] => rfl
  | a :: x, b :: y => by
    have ih := cmp_lt x y
    simp only [Lib.compareBytes, Op.bytesLess]
    by_cases h1 : a < b
    · simp [h1]
    · by_cases h2 : b < a
      · have h3 : (a == b) = false := by rw [beq_eq_false_iff_ne]; intro h; subst h; exact h1 h2
        simp [h1, h2, h3]
      · have h5 : a = b := UInt8.le_antisymm (UInt8.not_lt.1 h2) (UInt8.not_lt.1 h1)
        subst h5
        simpa [h1] using ih
theorem cmp_ltS (a b : ByteArray) : decide (Lib.compareBytes a.data.toList b.data.toList < 0) = ltS a b := by
  rw [cmp_lt, ← ByteArray.toList_eq, ← ByteArray.toList_eq]
theorem sorted_lt {l : List Pr} (h : rightP l = true) : ∀ j i, i < j → j < l.length → ltS (prAt l i).1 (prAt l j).1 = true := by
  have h1 : ∀ i, i + 1 < l.length → ltS (prAt l i).1 (prAt l (i + 1)).1 = true := fun i hi => by
    have h1 := right_iff.1 h (i + 1) hi
    cases hb : ltS (prAt l i).1 (prAt l (i + 1)).1 with
    | true => rfl
    | false => rw [(bad_iff l (i + 1)).2 (.inr (.inr (.inr (.inl ⟨by omega, hb⟩))))] at h1; cases h1
  intro j
  induction j with
  | zero => intro i hi; omega
  | succ j ih =>
    intro i hi hj
    rcases Nat.lt_or_ge i j with h2 | h2
    · exact ltS_trans (ih i h2 (by omega)) (h1 j hj)
    · obtain rfl : i = j := by omega
      exact h1 i hj
def belowN (l : List Pr) (k : ByteArray) : Nat := (l.takeWhile fun p => ltS p.1 k).length
theorem below_le (l : List Pr) (k : ByteArray) : belowN l k ≤ l.length := (List.takeWhile_sublist _).length_le
theorem below_uniq {l : List Pr} {k : ByteArray} {n : Nat} (hn : n ≤ l.length) (h1 : ∀ j, j < n → ltS (prAt l j).1 k = true) (h2 : n < l.length → ltS (prAt l n).1 k = false) : n = belowN l k := by
  induction l generalizing n with
  | nil => simp at hn; subst hn; rfl
  | cons p l ih =>
    unfold belowN
    rw [List.takeWhile_cons]
    cases n with
    | zero =>
      have : ltS p.1 k = false := h2 (by simp)
      rw [if_neg (by simpa using this)]; rfl
    | succ n =>
      have : ltS p.1 k = true := h1 0 (by omega)
      rw [if_pos (by simpa using this), List.length_cons, ih (n := n) (by simpa using hn) (fun j hj => h1 (j + 1) (by omega)) (fun h => h2 (by simpa using h))]
      rfl
/-! ### The walk -/
theorem CompareString_any (a b : ByteArray) (w : World) :
    Calls Tryd.prog 138 #[.string a, .string b] w fun e w' => e = .returned (I (Lib.compareBytes a.data.toList b.data.toList)) ∧ w = w' := by
  go_enter Tryd.func138, Tryd.ntmps138
  go_wp2
  rw [run_callFunc_extern Tryd.func150 (by kernel_rfl) (by kernel_rfl) (by kernel_rfl) (e := Extern.BytealgCompare.compare) (by kernel_rfl), Lib.run_compareString]
  simp only [Result.andThen]
  rw [Oper.upon_value]
  go_wp2
  go_ret
  exact ⟨rfl, rfl⟩
theorem Compare_any (a b : ByteArray) (w : World) :
    Calls Tryd.prog 110 #[.string a, .string b] w fun e w' => e = .returned (I (Lib.compareBytes a.data.toList b.data.toList)) ∧ w = w' := by
  go_enter Tryd.func110, Tryd.ntmps110
  go_wp2_with (go_at_call 138; refine (CompareString_any _ _ _).mono ?_; rintro e w' ⟨rfl, rfl⟩)
  go_ret
  exact ⟨rfl, rfl⟩
theorem below1_any (p : Pr) (k : ByteArray) (w : World) :
    Calls Tryd.prog 109 #[.agg (PC p), .string k] w (Post w (I (Lib.compareBytes p.1.data.toList k.data.toList))) := by
  obtain ⟨s, t⟩ := p
  unfold PC
  go_enter Tryd.func109, Tryd.ntmps109
  go_wp2_with (go_at_call 110; refine (Compare_any _ _ _).mono ?_; rintro e w' ⟨rfl, rfl⟩)
  go_ret
  exact post_mk rfl (by (try show Ex _ _); repeat (first | (with_reducible exact ex_refl _) | (with_reducible assumption) | (with_reducible refine ex_drewL ?_) | (with_reducible refine ex_appR ?_ _) | (with_reducible refine ex_wx ?_ _) | (with_reducible refine ex_drew ?_) | (with_reducible refine ex_alloc ?_ _)))
/-- A number, and whether it was met. -/
def PostF (n : Nat) (W : World) (e : Ending) (w' : World) : Prop := ∃ f, e = .returned (.tuple #[I n, .bool f]) ∧ ∃ X, w' = wx W X
set_option maxHeartbeats 1000000 in
theorem bsearch_any (l : List Pr) (k : ByteArray) (a : Option Addr) (c : Nat) (w : World) (hr : rightP l = true) (hc : l.length ≤ c) (hcm : c ≤ maxLen) (hs : SlP w a l) :
    Calls Tryd.prog 108 #[.slice a l.length c, .string k, .func (.func 109) #[] #[]] w (PostF (belowN l k) w) := by
  have hL := right_len hr
  have HS : Hid (∀ W, Ex w W → ∀ i, i < l.length → ∃ g off, a = some ⟨g, off, none⟩ ∧ g < W.heap.size ∧ cellsN W g (off + i * 2) 2 = some (PC (prAt l i)) ∧ W.cell? ⟨g, off + i * 2, none⟩ = some (.string (prAt l i).1) ∧ W.cell? ⟨g, off + i * 2 + 1, none⟩ = some (.string (prAt l i).2)) := Lib.hid fun W k i hi => (hs.ex k).row hi
  have HU : Hid (∀ n, n ≤ l.length → (∀ j, j < n → ltS (prAt l j).1 k = true) → (∀ j, n ≤ j → j < l.length → ltS (prAt l j).1 k = false) → n = belowN l k) := Lib.hid fun n h1 h2 h3 => below_uniq h1 h2 fun h => h3 n (Nat.le_refl _) h
  have HM : Hid (∀ i j, i < j → j < l.length → ltS (prAt l i).1 (prAt l j).1 = true) := Lib.hid fun i j => sorted_lt hr j i
  generalize belowN l k = R at HU ⊢
  generalize l.length = n at hc hL HS HU HM ⊢
  generalize prAt l = pr at HS HU HM
  clear hs hr
  unfold maxLen at hcm
  go_enter Tryd.func108, Tryd.ntmps108
  go_wp2
  go_loopw [9, 10] (fun i j wr => ∃ lo hi : Nat, lo ≤ hi ∧ hi ≤ n ∧ i = I lo ∧ j = I hi ∧ Hid (∀ q, q < lo → ltS (pr q).1 k = true) ∧ Hid (∀ q, hi ≤ q → q < n → ltS (pr q).1 k = false) ∧ Ex w wr) (fun i j _ => (intOf j).toNat - (intOf i).toNat)
  case atStart => exact ⟨0, n, by omega, by omega, rfl, rfl, Lib.hid (fun q hq => absurd hq (by omega)), Lib.hid (fun q hq hq2 => absurd hq (by omega)), (by (try show Ex _ _); repeat (first | (with_reducible exact ex_refl _) | (with_reducible assumption) | (with_reducible refine ex_drewL ?_) | (with_reducible refine ex_appR ?_ _) | (with_reducible refine ex_wx ?_ _) | (with_reducible refine ex_drew ?_) | (with_reducible refine ex_alloc ?_ _)))⟩
  case round =>
    obtain ⟨lo, hi, hlh, hhn, rfl, rfl, H1, H2, kr⟩ := hrel
    by_cases hlt : lo < hi
    · obtain ⟨m, hm⟩ : ∃ m, (lo + hi) / 2 = m := ⟨_, rfl⟩
      have hm1 : lo ≤ m := by omega
      have hm2 : m < hi := by omega
      obtain ⟨g, off, rfl, r1, _, r2, r3⟩ := HS.out wr kr m (by omega)
      have e1 : ((lo : Int) + hi) / 2 = m := by omega
      have e2 : ((lo : Int) + hi) % 18446744073709551616 = (lo : Int) + hi := by omega
      have HA : Hid (ltS (pr m).1 k = true → ∀ q, q < m + 1 → ltS (pr q).1 k = true) := Lib.hid fun h q hq => by
        rcases Nat.lt_or_ge q m with h2 | h2
        · exact ltS_trans (HM.out q m h2 (by omega)) h
        · obtain rfl : q = m := by omega
          exact h
      have HB : Hid (ltS (pr m).1 k = false → ∀ q, m ≤ q → q < n → ltS (pr q).1 k = false) := Lib.hid fun h q hq hqn => by
        rcases Nat.lt_or_ge m q with h2 | h2
        · cases hb : ltS (pr q).1 k with
          | false => rfl
          | true => rw [ltS_trans (HM.out m q h2 hqn) hb] at h; cases h
        · obtain rfl : q = m := by omega
          exact h
      have HC := Lib.hid (fun w' => below1_any (pr m) k w')
      have hcs := cmp_ltS (pr m).1 k
      generalize pr m = p at r2 r3 HA HB HC hcs
      obtain ⟨s, t⟩ := p
      unfold PC at HC
      simp only at r2 r3 HA HB HC hcs
      rw [← hcs] at HA HB
      clear hcs HU HM HS
      generalize Lib.compareBytes s.data.toList k.data.toList = z at HA HB HC
      by_cases hz : z < 0
      · have h3 := Lib.hid (HA.out (decide_eq_true hz))
        clear HA HB hm
        go_wp2_with (go_at_call 109; (with_reducible refine (HC.out _).mono ?_); rintro e w2 ⟨rfl, X, rfl⟩)
        refine ⟨⟨m + 1, hi, by omega, by omega, by go_num, rfl, h3, H2, (by (try show Ex _ _); repeat (first | (with_reducible exact ex_refl _) | (with_reducible assumption) | (with_reducible refine ex_drewL ?_) | (with_reducible refine ex_appR ?_ _) | (with_reducible refine ex_wx ?_ _) | (with_reducible refine ex_drew ?_) | (with_reducible refine ex_alloc ?_ _)))⟩, by simp [intOf]; omega⟩
      · have h3 := Lib.hid (HB.out (decide_eq_false hz))
        clear HA HB hm
        go_wp2_with (go_at_call 109; (with_reducible refine (HC.out _).mono ?_); rintro e w2 ⟨rfl, X, rfl⟩)
        refine ⟨⟨lo, m, by omega, by omega, rfl, by go_num, H1, h3, (by (try show Ex _ _); repeat (first | (with_reducible exact ex_refl _) | (with_reducible assumption) | (with_reducible refine ex_drewL ?_) | (with_reducible refine ex_appR ?_ _) | (with_reducible refine ex_wx ?_ _) | (with_reducible refine ex_drew ?_) | (with_reducible refine ex_alloc ?_ _)))⟩, by simp [intOf]; omega⟩
    · obtain rfl : lo = hi := by omega
      obtain rfl := HU.out lo hhn H1.out H2.out
      clear hlt hlh HU HM H1 H2
      by_cases hln : lo < n
      · obtain ⟨g, off, rfl, r1, _, r2, r3⟩ := HS.out wr kr lo hln
        have HC := Lib.hid (fun w' => below1_any (pr lo) k w')
        have d1 : decide ((lo : Int) < n) = true := decide_eq_true (by omega)
        have d2 : decide (lo < n) = true := decide_eq_true hln
        generalize pr lo = p at r2 r3 HC
        obtain ⟨s, t⟩ := p
        unfold PC at HC
        simp only at r2 r3 HC
        clear HS
        generalize Lib.compareBytes s.data.toList k.data.toList = z at HC
        go_wp2_with (go_at_call 109; (with_reducible refine (HC.out _).mono ?_); rintro e w2 ⟨rfl, X, rfl⟩)
        go_ret2
        exact ⟨_, rfl, (by (try show Ex _ _); repeat (first | (with_reducible exact ex_refl _) | (with_reducible assumption) | (with_reducible refine ex_drewL ?_) | (with_reducible refine ex_appR ?_ _) | (with_reducible refine ex_wx ?_ _) | (with_reducible refine ex_drew ?_) | (with_reducible refine ex_alloc ?_ _)))⟩
      · have d1 : decide ((lo : Int) < n) = false := decide_eq_false (by omega)
        have d2 : decide (lo < n) = false := decide_eq_false hln
        clear HS
        go_wp2
        go_ret2
        exact ⟨_, rfl, (by (try show Ex _ _); repeat (first | (with_reducible exact ex_refl _) | (with_reducible assumption) | (with_reducible refine ex_drewL ?_) | (with_reducible refine ex_appR ?_ _) | (with_reducible refine ex_wx ?_ _) | (with_reducible refine ex_drew ?_) | (with_reducible refine ex_alloc ?_ _)))⟩
theorem below_any (l : List Pr) (k : ByteArray) (a : Option Addr) (c : Nat) (w : World) (hr : rightP l = true) (hc : l.length ≤ c) (hcm : c ≤ maxLen) (hs : SlP w a l) :
    Calls Tryd.prog 67 #[.slice a l.length c, .string k] w (Post w (I (belowN l k))) := by
  have HB : Hid (∀ w', Ex w w' → Calls Tryd.prog 108 #[.slice a l.length c, .string k, .func (.func 109) #[] #[]] w' (PostF (belowN l k) w')) := Lib.hid fun w' kx => bsearch_any l k a c w' hr hc hcm (hs.ex kx)
  generalize belowN l k = R at HB ⊢
  generalize l.length = n at HB hc ⊢
  clear hr hs
  go_enter Tryd.func67, Tryd.ntmps67
  go_wp2_with (go_at_call 108; (with_reducible refine (HB.out _ (by (try show Ex _ _); repeat (first | (with_reducible exact ex_refl _) | (with_reducible assumption) | (with_reducible refine ex_drewL ?_) | (with_reducible refine ex_appR ?_ _) | (with_reducible refine ex_wx ?_ _) | (with_reducible refine ex_drew ?_) | (with_reducible refine ex_alloc ?_ _)))).mono ?_); rintro e w2 ⟨fd, rfl, X, rfl⟩)
  go_ret
  exact post_mk rfl (by (try show Ex _ _); repeat (first | (with_reducible exact ex_refl _) | (with_reducible assumption) | (with_reducible refine ex_drewL ?_) | (with_reducible refine ex_appR ?_ _) | (with_reducible refine ex_wx ?_ _) | (with_reducible refine ex_drew ?_) | (with_reducible refine ex_alloc ?_ _)))
end Go.Proofs.YtcdocklbpfdmeaaDoor
