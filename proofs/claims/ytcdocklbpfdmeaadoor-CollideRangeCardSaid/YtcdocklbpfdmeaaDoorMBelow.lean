import Derived.Test.YtcdocklbpfdmeaaDoorMTree
import Derived.Lib.Strings
import Derived.Lib.Slices
import Derived.Lib.Walk
import Derived.Lib.Bytealg
import Derived.Test.YtcdocklbpfdmeaaDoorMCoS

/- How many pairs stand ahead of a key: the search by halves. -/
set_option linter.unusedSimpArgs false
set_option linter.unusedVariables false
set_option maxRecDepth 20000
namespace Go.Proofs.YtcdocklbpfdmeaaDoor
open Go.RowKit
/-! ### The law -/
theorem cmp_lt : ∀ x y : List UInt8, decide (Lib.compareBytes x y < 0) = Op.bytesLess x y
  | [], [] => rfl
  | [], _ :: _ => rfl
  | _ :: _, [] => rfl
  | a :: x, b :: y => by
    have ih := cmp_lt x y
    simp only [Lib.compareBytes, Op.bytesLess]
    by_cases h1 : a < b
    · simp [h1]
    · by_cases h2 : b < a
      · have h3 : (a == b) = false := by rw [beq_eq_false_iff_ne]; intro h; subst h; exact h1 h2
        simp [h1, h2, h3]
      · have h5 : a = b := UInt8.le_antisymm (UInt8.not_lt.1 h2) (UInt8.not_lt.1 h1)
        subst h5
        simpa [h1] using ih
theorem cmp_ltS (a b : ByteArray) : decide (Lib.compareBytes a.data.toList b.data.toList < 0) = ltS a b := by
  rw [cmp_lt, ← ByteArray.toList_eq, ← ByteArray.toList_eq]
theorem sorted_lt {l : List Pr} (h : rightP l = true) : ∀ j i, i < j → j < l.length → ltS (prAt l i).1 (prAt l j).1 = true := by
  have h1 : ∀ i, i + 1 < l.length → ltS (prAt l i).1 (prAt l (i + 1)).1 = true := fun i hi => by
    have h1 := right_iff.1 h (i + 1) hi
    cases hb : ltS (prAt l i).1 (prAt l (i + 1)).1 with
    | true => rfl
    | false => rw [(bad_iff l (i + 1)).2 (.inr (.inr (.inr (.inl ⟨by omega, hb⟩))))] at h1; cases h1
  intro j
  induction j with
  | zero => intro i hi; omega
  | succ j ih =>
    intro i hi hj
    rcases Nat.lt_or_ge i j with h2 | h2
    · exact ltS_trans (ih i h2 (by omega)) (h1 j hj)
    · obtain rfl : i = j := by omega
      exact h1 i hj
def belowN (l : List Pr) (k : ByteArray) : Nat := (l.takeWhile fun p => ltS p.1 k).length
theorem below_le (l : List Pr) (k : ByteArray) : belowN l k ≤ l.length := (List.takeWhile_sublist _).length_le
theorem below_uniq {l : List Pr} {k : ByteArray} {n : Nat} (hn : n ≤ l.length) (h1 : ∀ j, j < n → ltS (prAt l j).1 k = true) (h2 : n < l.length → ltS (prAt l n).1 k = false) : n = belowN l k := by
  induction l generalizing n with
  | nil => simp at hn; subst hn; rfl
  | cons p l ih =>
    unfold belowN
    rw [List.takeWhile_cons]
    cases n with
    | zero =>
      have : ltS p.1 k = false := h2 (by simp)
      rw [if_neg (by simpa using this)]; rfl
    | succ n =>
      have : ltS p.1 k = true := h1 0 (by omega)
      rw [if_pos (by simpa using this), List.length_cons, ih (n := n) (by simpa using hn) (fun j hj => h1 (j + 1) (by omega)) (fun h => h2 (by simpa using h))]
      rfl
/-! ### The walk -/
theorem CompareString_any (a b : ByteArray) (w : World) :
    Calls Tryd.prog 138 #[.string a, .string b] w fun e w' => e = .returned (I (Lib.compareBytes a.data.toList b.data.toList)) ∧ w = w' := by
  go_enter Tryd.func138, Tryd.ntmps138
  go_wp2
  rw [run_callFunc_extern Tryd.func150 (by kernel_rfl) (by kernel_rfl) (by kernel_rfl) (e := Extern.BytealgCompare.compare) (by kernel_rfl), Lib.run_compareString]
  simp only [Result.andThen]
  rw [Oper.upon_value]
  go_wp2
  go_ret
  exact ⟨rfl, rfl⟩
theorem Compare_any (a b : ByteArray) (w : World) :
    Calls Tryd.prog 110 #[.string a, .string b] w fun e w' => e = .returned (I (Lib.compareBytes a.data.toList b.data.toList)) ∧ w = w' := by
  go_enter Tryd.func110, Tryd.ntmps110
  go_wp2_with (go_at_call 138; refine (CompareString_any _ _ _).mono ?_; rintro e w' ⟨rfl, rfl⟩)
  go_ret
  exact ⟨rfl, rfl⟩
theorem below1_any (p : Pr) (k : ByteArray) (w : World) :
    Calls Tryd.prog 109 #[.agg (PC p), .string k] w (Post w (I (Lib.compareBytes p.1.data.toList k.data.toList))) := by
  obtain ⟨s, t⟩ := p
  unfold PC
  go_enter Tryd.func109, Tryd.ntmps109
  go_wp2_with (go_at_call 110; refine (Compare_any _ _ _).mono ?_; rintro e w' ⟨rfl, rfl⟩)
  go_ret
  exact post_mk rfl (by (try show Ex _ _); with_reducible repeat (first | exact ex_refl _ | assumption | refine ex_drewL ?_ | refine ex_appR ?_ _ | refine ex_wx ?_ _ | refine ex_drew ?_ | refine ex_alloc ?_ _))
/-- A number, and whether it was met. -/
def PostF (n : Nat) (W : World) (e : Ending) (w' : World) : Prop := ∃ f, e = .returned (.tuple #[I n, .bool f]) ∧ ∃ X, w' = wx W X
set_option maxHeartbeats 1000000 in
theorem bsearch_any (l : List Pr) (k : ByteArray) (a : Option Addr) (c : Nat) (w : World) (hr : rightP l = true) (hc : l.length ≤ c) (hcm : c ≤ maxLen) (hs : SlP w a l) :
    Calls Tryd.prog 108 #[.slice a l.length c, .string k, .func (.func 109) #[] #[]] w (PostF (belowN l k) w) := by
  have hL := right_len hr
  have HS : Hid (∀ W, Ex w W → ∀ i, i < l.length → ∃ g off, a = some ⟨g, off, none⟩ ∧ g < W.heap.size ∧ cellsN W g (off + i * 2) 2 = some (PC (prAt l i)) ∧ W.cell? ⟨g, off + i * 2, none⟩ = some (.string (prAt l i).1) ∧ W.cell? ⟨g, off + i * 2 + 1, none⟩ = some (.string (prAt l i).2)) := Lib.hid fun W k i hi => (hs.ex k).row hi
  have HU : Hid (∀ n, n ≤ l.length → (∀ j, j < n → ltS (prAt l j).1 k = true) → (∀ j, n ≤ j → j < l.length → ltS (prAt l j).1 k = false) → n = belowN l k) := Lib.hid fun n h1 h2 h3 => below_uniq h1 h2 fun h => h3 n (Nat.le_refl _) h
  have HM : Hid (∀ i j, i < j → j < l.length → ltS (prAt l i).1 (prAt l j).1 = true) := Lib.hid fun i j => sorted_lt hr j i
  generalize belowN l k = R at HU ⊢
  generalize l.length = n at hc hL HS HU HM ⊢
  generalize prAt l = pr at HS HU HM
  clear hs hr
  unfold maxLen at hcm
  go_enter Tryd.func108, Tryd.ntmps108
  go_wp2
  go_loopw [9, 10] (fun i j wr => ∃ lo hi : Nat, lo ≤ hi ∧ hi ≤ n ∧ i = I lo ∧ j = I hi ∧ Hid (∀ q, q < lo → ltS (pr q).1 k = true) ∧ Hid (∀ q, hi ≤ q → q < n → ltS (pr q).1 k = false) ∧ Ex w wr) (fun i j _ => (intOf j).toNat - (intOf i).toNat)
  case atStart => exact ⟨0, n, by omega, by omega, rfl, rfl, Lib.hid (fun q hq => absurd hq (by omega)), Lib.hid (fun q hq hq2 => absurd hq (by omega)), (by (try show Ex _ _); with_reducible repeat (first | exact ex_refl _ | assumption | refine ex_drewL ?_ | refine ex_appR ?_ _ | refine ex_wx ?_ _ | refine ex_drew ?_ | refine ex_alloc ?_ _))⟩
  case round =>
    obtain ⟨lo, hi, hlh, hhn, rfl, rfl, H1, H2, kr⟩ := hrel
    by_cases hlt : lo < hi
    · obtain ⟨m, hm⟩ : ∃ m, (lo + hi) / 2 = m := ⟨_, rfl⟩
      have hm1 : lo ≤ m := by omega
      have hm2 : m < hi := by omega
      obtain ⟨g, off, rfl, r1, _, r2, r3⟩ := HS.out wr kr m (by omega)
      have e1 : ((lo : Int) + hi) / 2 = m := by omega
      have e2 : ((lo : Int) + hi) % 18446744073709551616 = (lo : Int) + hi := by omega
      have HA : Hid (ltS (pr m).1 k = true → ∀ q, q < m + 1 → ltS (pr q).1 k = true) := Lib.hid fun h q hq => by
        rcases Nat.lt_or_ge q m with h2 | h2
        · exact ltS_trans (HM.out q m h2 (by omega)) h
        · obtain rfl : q = m := by omega
          exact h
      have HB : Hid (ltS (pr m).1 k = false → ∀ q, m ≤ q → q < n → ltS (pr q).1 k = false) := Lib.hid fun h q hq hqn => by
        rcases Nat.lt_or_ge m q with h2 | h2
        · cases hb : ltS (pr q).1 k with
          | false => rfl
          | true => rw [ltS_trans (HM.out m q h2 hqn) hb] at h; cases h
        · obtain rfl : q = m := by omega
          exact h
      have HC := Lib.hid (fun w' => below1_any (pr m) k w')
      have hcs := cmp_ltS (pr m).1 k
      generalize pr m = p at r2 r3 HA HB HC hcs
      obtain ⟨s, t⟩ := p
      unfold PC at HC
      simp only at r2 r3 HA HB HC hcs
      rw [← hcs] at HA HB
      clear hcs HU HM HS
      generalize Lib.compareBytes s.data.toList k.data.toList = z at HA HB HC
      by_cases hz : z < 0
      · have h3 := Lib.hid (HA.out (decide_eq_true hz))
        clear HA HB hm
        go_wp2_with (go_at_call 109; (with_reducible refine (HC.out _).mono ?_); rintro e w2 ⟨rfl, X, rfl⟩)
        refine ⟨⟨m + 1, hi, by omega, by omega, by go_num, rfl, h3, H2, (by (try show Ex _ _); with_reducible repeat (first | exact ex_refl _ | assumption | refine ex_drewL ?_ | refine ex_appR ?_ _ | refine ex_wx ?_ _ | refine ex_drew ?_ | refine ex_alloc ?_ _))⟩, by simp [intOf]; omega⟩
      · have h3 := Lib.hid (HB.out (decide_eq_false hz))
        clear HA HB hm
        go_wp2_with (go_at_call 109; (with_reducible refine (HC.out _).mono ?_); rintro e w2 ⟨rfl, X, rfl⟩)
        refine ⟨⟨lo, m, by omega, by omega, rfl, by go_num, H1, h3, (by (try show Ex _ _); with_reducible repeat (first | exact ex_refl _ | assumption | refine ex_drewL ?_ | refine ex_appR ?_ _ | refine ex_wx ?_ _ | refine ex_drew ?_ | refine ex_alloc ?_ _))⟩, by simp [intOf]; omega⟩
    · obtain rfl : lo = hi := by omega
      obtain rfl := HU.out lo hhn H1.out H2.out
      clear hlt hlh HU HM H1 H2
      by_cases hln : lo < n
      · obtain ⟨g, off, rfl, r1, _, r2, r3⟩ := HS.out wr kr lo hln
        have HC := Lib.hid (fun w' => below1_any (pr lo) k w')
        have d1 : decide ((lo : Int) < n) = true := decide_eq_true (by omega)
        have d2 : decide (lo < n) = true := decide_eq_true hln
        generalize pr lo = p at r2 r3 HC
        obtain ⟨s, t⟩ := p
        unfold PC at HC
        simp only at r2 r3 HC
        clear HS
        generalize Lib.compareBytes s.data.toList k.data.toList = z at HC
        go_wp2_with (go_at_call 109; (with_reducible refine (HC.out _).mono ?_); rintro e w2 ⟨rfl, X, rfl⟩)
        go_ret2
        exact ⟨_, rfl, (by (try show Ex _ _); with_reducible repeat (first | exact ex_refl _ | assumption | refine ex_drewL ?_ | refine ex_appR ?_ _ | refine ex_wx ?_ _ | refine ex_drew ?_ | refine ex_alloc ?_ _))⟩
      · have d1 : decide ((lo : Int) < n) = false := decide_eq_false (by omega)
        have d2 : decide (lo < n) = false := decide_eq_false hln
        clear HS
        go_wp2
        go_ret2
        exact ⟨_, rfl, (by (try show Ex _ _); with_reducible repeat (first | exact ex_refl _ | assumption | refine ex_drewL ?_ | refine ex_appR ?_ _ | refine ex_wx ?_ _ | refine ex_drew ?_ | refine ex_alloc ?_ _))⟩
theorem below_any (l : List Pr) (k : ByteArray) (a : Option Addr) (c : Nat) (w : World) (hr : rightP l = true) (hc : l.length ≤ c) (hcm : c ≤ maxLen) (hs : SlP w a l) :
    Calls Tryd.prog 67 #[.slice a l.length c, .string k] w (Post w (I (belowN l k))) := by
  have HB : Hid (∀ w', Ex w w' → Calls Tryd.prog 108 #[.slice a l.length c, .string k, .func (.func 109) #[] #[]] w' (PostF (belowN l k) w')) := Lib.hid fun w' kx => bsearch_any l k a c w' hr hc hcm (hs.ex kx)
  generalize belowN l k = R at HB ⊢
  generalize l.length = n at HB hc ⊢
  clear hr hs
  go_enter Tryd.func67, Tryd.ntmps67
  go_wp2_with (go_at_call 108; (with_reducible refine (HB.out _ (by (try show Ex _ _); with_reducible repeat (first | exact ex_refl _ | assumption | refine ex_drewL ?_ | refine ex_appR ?_ _ | refine ex_wx ?_ _ | refine ex_drew ?_ | refine ex_alloc ?_ _))).mono ?_); rintro e w2 ⟨fd, rfl, X, rfl⟩)
  go_ret
  exact post_mk rfl (by (try show Ex _ _); with_reducible repeat (first | exact ex_refl _ | assumption | refine ex_drewL ?_ | refine ex_appR ?_ _ | refine ex_wx ?_ _ | refine ex_drew ?_ | refine ex_alloc ?_ _))
end Go.Proofs.YtcdocklbpfdmeaaDoor

/- Collide's plain law: what a span tells is what stands in the range; bytes that tell what they are of (checked stand-alone). -/
set_option linter.unusedSimpArgs false
set_option linter.unusedVariables false
set_option linter.unnecessarySimpa false
namespace Go.Proofs.YtcdocklbpfdmeaaDoor
/-! ### What a span tells, where it is the pairs that are there -/
theorem prAt_mem {l : List Pr} {i : Nat} {p : Pr} (h : l[i]? = some p) : prAt l i = p := by
  unfold prAt; rw [List.getD_eq_getElem?_getD, h]; rfl
theorem filter_none {l : List Pr} {g : Pr → Bool} (h : ∀ p ∈ l, g p = false) : l.filter g = [] := by
  rw [List.filter_eq_nil_iff]
  intro p hp
  rw [h p hp]; exact Bool.false_ne_true
theorem range_so {l pairs : List Pr} {r : Rg} {f : Nat} (hl : rightP l = true) (hp : ∀ j, j < pairs.length → pairs[j]? = l[f + j]?) (hf : f + pairs.length ≤ l.length) (h0 : 0 < pairs.length)
    (ha : f = 0 ∨ ltS (prAt pairs 0).1 r.lo = true) (hb : f + pairs.length = l.length ∨ (ltS (prAt pairs (pairs.length - 1)).1 r.lo = false ∧ inP r (prAt pairs (pairs.length - 1)).1 = false)) :
    pairs.filter (fun p => inP r p.1) = l.filter fun p => inP r p.1 := by
  have hat : ∀ j, j < pairs.length → prAt pairs j = prAt l (f + j) := fun j hj => by
    unfold prAt; rw [List.getD_eq_getElem?_getD, List.getD_eq_getElem?_getD, hp j hj]
  have hmid : (l.drop f).take pairs.length = pairs := by
    apply List.ext_getElem?
    intro j
    by_cases hj : j < pairs.length
    · rw [List.getElem?_take_of_lt hj, List.getElem?_drop, hp j hj]
    · rw [List.getElem?_eq_none (by rw [List.length_take]; omega), List.getElem?_eq_none (by omega)]
  have hsplit : l = l.take f ++ (pairs ++ l.drop (f + pairs.length)) := by
    conv => lhs; rw [← List.take_append_drop f l]
    congr 1
    conv => lhs; rw [← List.take_append_drop pairs.length (l.drop f), hmid, List.drop_drop]
  have h1 : (l.take f).filter (fun p => inP r p.1) = [] := filter_none fun p hpm => by
    obtain ⟨i, hi⟩ := List.getElem?_of_mem hpm
    have hil := (List.getElem?_eq_some_iff.1 hi).1
    rw [List.length_take] at hil
    rw [List.getElem?_take_of_lt (by omega)] at hi
    rcases ha with ha | ha
    · omega
    · rw [hat 0 h0, Nat.add_zero] at ha
      have h2 := sorted_lt hl f i (by omega) (by omega)
      rw [prAt_mem hi] at h2
      unfold inP
      rw [ltS_trans h2 ha]; rfl
  have h3 : (l.drop (f + pairs.length)).filter (fun p => inP r p.1) = [] := filter_none fun p hpm => by
    obtain ⟨i, hi⟩ := List.getElem?_of_mem hpm
    have hil := (List.getElem?_eq_some_iff.1 hi).1
    rw [List.length_drop] at hil
    rw [List.getElem?_drop] at hi
    rcases hb with hb | ⟨hb1, hb2⟩
    · omega
    · rw [hat _ (by omega)] at hb1 hb2
      have h2 := sorted_lt hl (f + pairs.length + i) (f + (pairs.length - 1)) (by omega) (by omega)
      rw [prAt_mem hi] at h2
      unfold inP at hb2 ⊢
      rw [hb1] at hb2
      simp only [Bool.not_false, Bool.true_and, Bool.or_eq_false_iff] at hb2
      cases hh : ltS p.1 r.hi with
      | false => rw [hb2.1]; simp
      | true => rw [ltS_trans h2 hh] at hb2; exact absurd hb2.2 (by decide)
  conv => rhs; rw [hsplit]
  rw [List.filter_append, List.filter_append, h1, h3]
  simp
/-! ### Bytes that tell what they are of -/
theorem ofNat_mod8 {a b : Nat} (h : UInt8.ofNat a = UInt8.ofNat b) : a % 256 = b % 256 := by
  have := congrArg UInt8.toNat h
  simpa using this
theorem hiL2_inj {a b : Nat} (ha : a < 65536) (hb : b < 65536) (h : hiL a 2 = hiL b 2) : a = b := by
  have h : [UInt8.ofNat (a / 256 ^ 1), UInt8.ofNat (a / 256 ^ 0)] = [UInt8.ofNat (b / 256 ^ 1), UInt8.ofNat (b / 256 ^ 0)] := h
  have h1 := ofNat_mod8 (List.cons.inj h).1
  have h2 := ofNat_mod8 (List.cons.inj (List.cons.inj h).2).1
  omega
theorem hiL4_inj {a b : Nat} (ha : a < 4294967296) (hb : b < 4294967296) (h : hiL a 4 = hiL b 4) : a = b := by
  have h : [UInt8.ofNat (a / 256 ^ 3), UInt8.ofNat (a / 256 ^ 2), UInt8.ofNat (a / 256 ^ 1), UInt8.ofNat (a / 256 ^ 0)] = [UInt8.ofNat (b / 256 ^ 3), UInt8.ofNat (b / 256 ^ 2), UInt8.ofNat (b / 256 ^ 1), UInt8.ofNat (b / 256 ^ 0)] := h
  have h1 := ofNat_mod8 (List.cons.inj h).1
  have h2 := ofNat_mod8 (List.cons.inj (List.cons.inj h).2).1
  have h3 := ofNat_mod8 (List.cons.inj (List.cons.inj (List.cons.inj h).2).2).1
  have h4 := ofNat_mod8 (List.cons.inj (List.cons.inj (List.cons.inj (List.cons.inj h).2).2).2).1
  omega
theorem someL_inj {a b : ByteArray} {r s : List UInt8} (ha : a.size ≤ 65535) (hb : b.size ≤ 65535) (h : someL a ++ r = someL b ++ s) : a = b ∧ r = s := by
  have la : a.data.toList.length = a.size := Array.length_toList
  have lb : b.data.toList.length = b.size := Array.length_toList
  unfold someL at h
  rw [Nat.min_eq_left ha, Nat.min_eq_left hb, List.take_of_length_le (by omega), List.take_of_length_le (by omega), List.append_assoc, List.append_assoc] at h
  have h1 := List.append_inj h (by rw [hiL_len, hiL_len])
  have hs := hiL2_inj (by omega) (by omega) h1.1
  have h2 := List.append_inj h1.2 (by omega)
  refine ⟨?_, h2.2⟩
  apply ByteArray.ext
  exact Array.toList_inj.1 h2.1
theorem leafL_inj {p q : Pr} (hp : p.1.size ≤ 65535 ∧ p.2.size ≤ 65535) (hq : q.1.size ≤ 65535 ∧ q.2.size ≤ 65535) (h : leafL p = leafL q) : p = q := by
  unfold leafL at h
  rw [List.append_assoc, List.append_assoc] at h
  have h1 := someL_inj hp.1 hq.1 (List.append_inj h rfl).2
  have h2 := someL_inj (r := []) (s := []) hp.2 hq.2 (by rw [List.append_nil, List.append_nil]; exact h1.2)
  exact Prod.ext h1.1 h2.1
theorem crownL_inj {a b : Nat} {x y : Dg} (ha : a < 4294967296) (hb : b < 4294967296) (h : [2] ++ hiL a 4 ++ bytesD x = [2] ++ hiL b 4 ++ bytesD y) : a = b ∧ x = y := by
  rw [List.append_assoc, List.append_assoc] at h
  have h1 := List.append_inj (List.append_inj h rfl).2 (by rw [hiL_len, hiL_len])
  exact ⟨hiL4_inj ha hb h1.1, bytesD_inj h1.2⟩
end Go.Proofs.YtcdocklbpfdmeaaDoor
