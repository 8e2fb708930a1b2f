import Derived.Test.YtpcfkjeikhehaaaDoorMOwn
import Derived.Test.YtpcfkjeikhehaaaDoorMSum

/- The short number that bytes begin with, walked. -/
set_option linter.unusedSimpArgs false
set_option linter.unusedVariables false
set_option maxRecDepth 20000
namespace Go.Proofs.YtpcfkjeikhehaaaDoor
open Go.RowKit
def longV : Option (Nat × Nat) → Value
  | some (x, n) => .tuple #[.int .u64 x, I n, .bool true]
  | none => .tuple #[.int .u64 0, I 0, .bool false]
theorem andc (c : UInt8) : bits BinOp.and IntKind.u8 (bn c) 127 = ((c.toNat % 128 : Nat) : Int) := by
  have h : ∀ y : Fin 256, bits BinOp.and IntKind.u8 ((y.val : Nat) : Int) 127 = ((y.val % 128 : Nat) : Int) := by decide +kernel
  exact h ⟨c.toNat, c.toNat_lt⟩
theorem or64 (x b : Nat) (hb : b < 128) (hx : 128 * x + b < 18446744073709551616) : bits BinOp.or IntKind.u64 ((x : Int) * 128) (b : Int) = ((128 * x + b : Nat) : Int) := by
  simp only [bits]
  rw [show IntKind.u64.bits = 64 from rfl, show (x : Int) * 128 = ((x * 128 : Nat) : Int) by simp, bv64, bv64, wrap_u64_nat _ (BitVec.isLt _)]
  congr 1
  rw [BitVec.toNat_or, BitVec.toNat_ofNat, BitVec.toNat_ofNat, Nat.mod_eq_of_lt (by omega), Nat.mod_eq_of_lt (by omega)]
  have := Nat.shiftLeft_add_eq_or_of_lt (show b < 2 ^ 7 by omega) x
  rw [Nat.shiftLeft_eq] at this
  rw [show (2 : Nat) ^ 7 = 128 from rfl] at this
  omega
theorem drop_get {l : List UInt8} {k : Nat} (h : k < l.length) : l.drop k = gF l k :: l.drop (k + 1) := by
  rw [List.drop_eq_getElem_cons h]
  congr 1
  have := gF_get h
  rw [List.getElem?_eq_getElem h] at this
  exact Option.some.inj this
theorem long_any (l : List UInt8) (v : Value) (w : World) (hs : SlT w v l) :
    Calls Tryd.prog 13 #[v] w (Post w (longV (longL l))) := by
  obtain ⟨a, cc, rfl, hc, hcm, _, hs⟩ := hs.out
  have HS : Hid (∀ W, Ex w W → ∀ i, i < l.length → ∃ g off, a = some ⟨g, off, none⟩ ∧ g < W.heap.size ∧ W.cell? ⟨g, off + i, none⟩ = some (B (gF l i))) := Lib.hid fun W k i hi => (hs.ex k).row (by omega)
  have HD : Hid (∀ k x, k < l.length → longGo (l.drop k) x k = if 144115188075855872 ≤ x ∨ (k = 0 ∧ gF l k = 128) then none else if (gF l k).toNat < 128 then some (128 * x + (gF l k).toNat % 128, k + 1) else longGo (l.drop (k + 1)) (128 * x + (gF l k).toNat % 128) (k + 1)) := Lib.hid fun k x hk => by rw [drop_get hk, longGo_cons]
  have HE : Hid (∀ x, longGo (l.drop l.length) x l.length = none) := Lib.hid fun x => by rw [List.drop_length]; rfl
  have H0 : Hid (longL l = longGo (l.drop 0) 0 0) := Lib.hid rfl
  generalize hg : (fun k x => longGo (l.drop k) x k) = go at *
  have HD2 : Hid (∀ k x, k < l.length → go k x = if 144115188075855872 ≤ x ∨ (k = 0 ∧ gF l k = 128) then none else if (gF l k).toNat < 128 then some (128 * x + (gF l k).toNat % 128, k + 1) else go (k + 1) (128 * x + (gF l k).toNat % 128)) := Lib.hid (by subst hg; exact HD.out)
  have HE2 : Hid (∀ x, go l.length x = none) := Lib.hid (by subst hg; exact HE.out)
  have H02 : Hid (longL l = go 0 0) := Lib.hid (by subst hg; exact H0.out)
  clear HD HE H0 hg hs
  generalize longL l = out at *
  generalize gF l = p at *
  generalize l.length = n at *
  unfold maxLen at hcm
  go_enter Tryd.func13, Tryd.ntmps13
  go_wp2
  go_loopw [2, 9] (fun t i wr => ∃ k x : Nat, k ≤ n ∧ i = I k ∧ t = .int .u64 x ∧ x < 18446744073709551616 ∧ Hid (out = go k x) ∧ Ex w wr) (fun _ i _ => n - (intOf i).toNat)
  case atStart => exact ⟨0, 0, by omega, rfl, rfl, by omega, H02, (by (try show Ex _ _); repeat (first | (with_reducible exact ex_refl _) | (with_reducible assumption) | (with_reducible refine ex_drewL ?_) | (with_reducible refine ex_appR ?_ _) | (with_reducible refine ex_wx ?_ _) | (with_reducible refine ex_drew ?_) | (with_reducible refine ex_alloc ?_ _)))⟩
  case round =>
    obtain ⟨k, x, hk, rfl, rfl, hx, HO, kr⟩ := hrel
    by_cases hlt : k < n
    · obtain ⟨g, off, rfl, r1, r2⟩ := HS.out wr kr k hlt
      have HG : Hid (out = _) := Lib.hid (HO.out.trans (HD2.out k x hlt))
      clear HS HD2 HE2 H02 HO
      generalize hc : p k = c at *
      have hA := andc c
      have hc2 : c.toNat < 256 := c.toNat_lt
      by_cases hb : 144115188075855872 ≤ x
      · have e1 : (0 : Int) < (x : Int) / 144115188075855872 := by omega
        have e2 := HG.out
        rw [if_pos (Or.inl hb)] at e2
        subst e2
        clear HG
        go_wp2
        go_ret3
        exact post_mk rfl (by (try show Ex _ _); repeat (first | (with_reducible exact ex_refl _) | (with_reducible assumption) | (with_reducible refine ex_drewL ?_) | (with_reducible refine ex_appR ?_ _) | (with_reducible refine ex_wx ?_ _) | (with_reducible refine ex_drew ?_) | (with_reducible refine ex_alloc ?_ _)))
      · have e1 : ¬ (0 : Int) < (x : Int) / 144115188075855872 := by omega
        have hw : IntKind.u64.wrap ((x : Int) * 128) = (x : Int) * 128 := by rw [IntKind.wrap_u64]; omega
        have ho : bits BinOp.or IntKind.u64 ((x : Int) * 128) ((c.toNat : Int) % 128) = ((128 * x + c.toNat % 128 : Nat) : Int) := by have := or64 x (c.toNat % 128) (by omega) (by omega); simpa using this
        have hA2 : bits BinOp.and IntKind.u8 (bn c) 127 = (c.toNat : Int) % 128 := by have := andc c; simpa using this
        have hx2 : 128 * x + c.toNat % 128 < 18446744073709551616 := by omega
        by_cases hb2 : k = 0 ∧ c = 128
        · obtain ⟨rfl, rfl⟩ := hb2
          have e2 := HG.out
          rw [if_pos (Or.inr ⟨rfl, rfl⟩)] at e2
          subst e2
          have e3 : bn 128 = 128 := rfl
          rw [Nat.add_zero] at r2
          clear HG
          go_wp2
          go_ret3
          exact post_mk rfl (by (try show Ex _ _); repeat (first | (with_reducible exact ex_refl _) | (with_reducible assumption) | (with_reducible refine ex_drewL ?_) | (with_reducible refine ex_appR ?_ _) | (with_reducible refine ex_wx ?_ _) | (with_reducible refine ex_drew ?_) | (with_reducible refine ex_alloc ?_ _)))
        · have e2 := HG.out
          rw [if_neg (by rintro (h | h); exact hb h; exact hb2 h)] at e2
          have HX : Hid (out = _) := Lib.hid e2
          clear HG e2
          have hg : (k = 0 ∧ (bn c == 128) = false) ∨ ((k : Int) == 0) = false := by
            by_cases hk0 : k = 0
            · refine Or.inl ⟨hk0, beq_eq_false_iff_ne.2 fun e => hb2 ⟨hk0, bn_inj (e.trans rfl)⟩⟩
            · exact Or.inr (beq_eq_false_iff_ne.2 (by omega))
          have hcv : bn c = (c.toNat : Int) := rfl
          clear hb2
          generalize hX : 128 * x + c.toNat % 128 = X at *
          by_cases hlo : c.toNat < 128
          · have e4 : bn c < 128 := by omega
            have e5 := HX.out
            rw [if_pos hlo] at e5
            subst e5
            clear HX
            clear hcv
            rcases hg with ⟨rfl, hg⟩ | hg
            · rw [Nat.add_zero] at r2
              go_wp2
              go_ret3
              exact post_mk rfl (by (try show Ex _ _); repeat (first | (with_reducible exact ex_refl _) | (with_reducible assumption) | (with_reducible refine ex_drewL ?_) | (with_reducible refine ex_appR ?_ _) | (with_reducible refine ex_wx ?_ _) | (with_reducible refine ex_drew ?_) | (with_reducible refine ex_alloc ?_ _)))
            · go_wp2
              go_ret3
              exact post_mk rfl (by (try show Ex _ _); repeat (first | (with_reducible exact ex_refl _) | (with_reducible assumption) | (with_reducible refine ex_drewL ?_) | (with_reducible refine ex_appR ?_ _) | (with_reducible refine ex_wx ?_ _) | (with_reducible refine ex_drew ?_) | (with_reducible refine ex_alloc ?_ _)))
          · have e4 : ¬ bn c < 128 := by omega
            have e5 := HX.out
            rw [if_neg hlo] at e5
            replace e5 := Lib.hid e5
            clear HX
            clear hcv
            rcases hg with ⟨rfl, hg⟩ | hg
            · rw [Nat.add_zero] at r2
              go_wp2
              refine ⟨⟨_, X, by omega, by go_num, rfl, hx2, e5, (by (try show Ex _ _); repeat (first | (with_reducible exact ex_refl _) | (with_reducible assumption) | (with_reducible refine ex_drewL ?_) | (with_reducible refine ex_appR ?_ _) | (with_reducible refine ex_wx ?_ _) | (with_reducible refine ex_drew ?_) | (with_reducible refine ex_alloc ?_ _)))⟩, by simp [intOf]; omega⟩
            · go_wp2
              refine ⟨⟨_, X, by omega, by go_num, rfl, hx2, e5, (by (try show Ex _ _); repeat (first | (with_reducible exact ex_refl _) | (with_reducible assumption) | (with_reducible refine ex_drewL ?_) | (with_reducible refine ex_appR ?_ _) | (with_reducible refine ex_wx ?_ _) | (with_reducible refine ex_drew ?_) | (with_reducible refine ex_alloc ?_ _)))⟩, by simp [intOf]; omega⟩
    · obtain rfl : k = n := by omega
      have e2 := HO.out
      rw [HE2.out] at e2
      subst e2
      clear hlt hk HS HD2 HE2 H02 HO
      go_wp2
      go_ret3
      exact post_mk rfl (by (try show Ex _ _); repeat (first | (with_reducible exact ex_refl _) | (with_reducible assumption) | (with_reducible refine ex_drewL ?_) | (with_reducible refine ex_appR ?_ _) | (with_reducible refine ex_wx ?_ _) | (with_reducible refine ex_drew ?_) | (with_reducible refine ex_alloc ?_ _)))
theorem gF_take_hi {l : List UInt8} {k : Nat} (h : ∀ i, i < k → 128 ≤ (gF l i).toNat) (hk : k ≤ l.length) : ∀ c ∈ l.take k, 128 ≤ c.toNat := by
  intro c hc
  obtain ⟨i, hi⟩ := List.mem_iff_getElem?.1 hc
  rw [List.getElem?_take] at hi
  split at hi
  · rename_i h2
    rw [gF_get (by omega)] at hi
    obtain rfl := Option.some.inj hi
    exact h i h2
  · cases hi
theorem take_snoc {l : List UInt8} {k : Nat} (h : k < l.length) : l.take (k + 1) = l.take k ++ [gF l k] := by
  rw [List.take_add_one, gF_get h]; rfl
theorem take_split {l : List UInt8} {k : Nat} (h : k < l.length) : l = l.take k ++ gF l k :: l.drop (k + 1) := by
  conv => lhs; rw [← List.take_append_drop k l, drop_get h]
def valM (l : List UInt8) (k : Nat) : Nat := valL (l.take k) % 18446744073709551616
set_option maxHeartbeats 1000000 in
theorem reflong_any (l : List UInt8) (v : Value) (w : World) (hs : SlT w v l) :
    Calls Tryd.prog 14 #[v] w (Post w (longV (longL l))) := by
  obtain ⟨a, cc, rfl, hc, hcm, ha, hs⟩ := hs.out
  have HS : Hid (∀ W, Ex w W → ∀ i, i < l.length → ∃ g off, a = some ⟨g, off, none⟩ ∧ g < W.heap.size ∧ W.cell? ⟨g, off + i, none⟩ = some (B (gF l i))) := Lib.hid fun W k i hi => (hs.ex k).row (by omega)
  have HN : Hid (∀ k, k ≤ l.length → (∀ i, i < k → 128 ≤ (gF l i).toNat) → (k = 10 ∨ k = l.length) → longL l = none) := Lib.hid fun k hk h he => by
    rcases Nat.lt_or_ge k l.length with h2 | h2
    · rcases he with rfl | rfl
      · conv => lhs; rw [← List.take_append_drop 10 l]
        exact long_far _ _ (gF_take_hi h hk) (by rw [List.length_take]; omega) (by rw [drop_get h2]; simp)
      · omega
    · have e := gF_take_hi h hk
      rw [List.take_of_length_le h2] at e
      exact long_hi l e
  have HF : Hid (∀ k, k < l.length → (∀ i, i < k → 128 ≤ (gF l i).toNat) → (gF l k).toNat < 128 → longL l = if shortL (valM l (k + 1)) = l.take (k + 1) then some (valM l (k + 1), k + 1) else none) := Lib.hid fun k hk h hlo => by
    have e := long_doc (l.take k) (gF l k) (l.drop (k + 1)) (gF_take_hi h (by omega)) hlo
    rw [← take_split hk, ← take_snoc hk, List.length_take, Nat.min_eq_left (by omega)] at e
    exact e
  have HV : Hid (∀ j, j < l.length → valM l (j + 1) = (128 * valM l j + (gF l j).toNat % 128) % 18446744073709551616) := Lib.hid fun j hj => by
    unfold valM
    rw [take_snoc hj, valL_snoc]
    omega
  have HV0 : Hid (valM l 0 = 0) := Lib.hid rfl
  have HVL : Hid (∀ j, valM l j < 18446744073709551616) := Lib.hid fun j => Nat.mod_lt _ (by decide)
  have HT : Hid (∀ W, Ex w W → ∀ k, k ≤ l.length → SlT W (.slice a k cc) (l.take k)) := Lib.hid fun W k q hq => by
    have := (SlL.ex hs k)
    refine ⟨a, cc, by rw [List.length_take, Nat.min_eq_left hq], by rw [List.length_take]; omega, hcm, ha, ?_⟩
    unfold SlL at this ⊢
    rw [List.length_take, Nat.min_eq_left hq]
    rcases this.out with h0 | ⟨g, off, h1, h2, h3⟩
    · obtain rfl : q = 0 := by omega
      exact SlB.zero _ _ _
    · subst h1
      refine SlB.mk' h2 fun j hj => ?_
      rw [h3 j (by omega)]
      unfold gF
      rw [List.getD_eq_getElem?_getD, List.getD_eq_getElem?_getD, List.getElem?_take, if_pos hj]
  generalize longL l = out at *
  generalize hp : gF l = p at *
  generalize hvm : valM l = vm at *
  obtain ⟨tk, htk⟩ : ∃ tk : Nat → List UInt8, tk = fun k => l.take k := ⟨_, rfl⟩
  have HT2 : Hid (∀ W, Ex w W → ∀ k, k ≤ l.length → SlT W (.slice a k cc) (tk k)) := Lib.hid (by subst htk; exact HT.out)
  have HF2 : Hid (∀ k, k < l.length → (∀ i, i < k → 128 ≤ (p i).toNat) → (p k).toNat < 128 → out = if shortL (vm (k + 1)) = tk (k + 1) then some (vm (k + 1), k + 1) else none) := Lib.hid (by subst htk; exact HF.out)
  clear HT HF htk hs ha
  generalize l.length = n at *
  clear hp hvm
  unfold maxLen at hcm
  go_enter Tryd.func14, Tryd.ntmps14
  go_wp2
  go_loopw [5] (fun i wr => ∃ k : Nat, k ≤ n ∧ k ≤ 10 ∧ i = I (k + 1) ∧ Hid (∀ i, i < k → 128 ≤ (p i).toNat) ∧ Ex w wr) (fun i _ => 12 - (intOf i).toNat)
  case atStart => exact ⟨0, by omega, by omega, rfl, Lib.hid (fun i hi => absurd hi (by omega)), (by (try show Ex _ _); repeat (first | (with_reducible exact ex_refl _) | (with_reducible assumption) | (with_reducible refine ex_drewL ?_) | (with_reducible refine ex_appR ?_ _) | (with_reducible refine ex_wx ?_ _) | (with_reducible refine ex_drew ?_) | (with_reducible refine ex_alloc ?_ _)))⟩
  case round =>
    obtain ⟨k, hk, hk10, rfl, HK, kr⟩ := hrel
    by_cases hlt : k < n ∧ k < 10
    · obtain ⟨hlt, hlt10⟩ := hlt
      obtain ⟨g, off, rfl, r1, r2⟩ := HS.out wr kr k hlt
      obtain ⟨m, hm⟩ : ∃ m, k + 1 = m := ⟨_, rfl⟩
      have e1 : ((m : Int)) ≤ 10 := by omega
      have e2 : ((m : Int)) ≤ n := by omega
      have e3 : (m : Int) - 1 = k := by omega
      have e0 : ((k : Int) + 1) = m := by omega
      rw [e0]
      by_cases hhi : 128 ≤ (p k).toNat
      · have e4 : ¬ bn (p k) < 128 := by unfold bn; omega
        have e5 : (128 : Int) ≤ bn (p k) := by unfold bn; omega
        have HK2 : Hid (∀ i, i < m → 128 ≤ (p i).toNat) := Lib.hid fun i hi => by
          rcases Nat.lt_or_ge i k with h | h
          · exact HK.out i h
          · obtain rfl : i = k := by omega
            exact hhi
        clear HS HN HF2 HT2 HV HVL HK
        go_wp2
        refine ⟨⟨m, by omega, by omega, by go_num, HK2, (by (try show Ex _ _); repeat (first | (with_reducible exact ex_refl _) | (with_reducible assumption) | (with_reducible refine ex_drewL ?_) | (with_reducible refine ex_appR ?_ _) | (with_reducible refine ex_wx ?_ _) | (with_reducible refine ex_drew ?_) | (with_reducible refine ex_alloc ?_ _)))⟩, by simp [intOf]; omega⟩
      · have e4 : bn (p k) < 128 := by unfold bn; omega
        have e5 : ¬ (128 : Int) ≤ bn (p k) := by unfold bn; omega
        have HO := Lib.hid (HF2.out k hlt HK.out (by omega))
        rw [hm] at HO
        have HTm := Lib.hid (fun W k => HT2.out W k m (by omega))
        have e6 : (m : Int) ≤ cc := by omega
        clear HN HF2 HT2 HK
        go_wp2
        go_loopw [6, 29] (fun t i W2 => ∃ j : Nat, j ≤ m ∧ i = I j ∧ t = .int .u64 (vm j) ∧ Ex w W2) (fun _ i _ => m - (intOf i).toNat)
        case atStart => exact ⟨0, by omega, rfl, by rw [HV0.out]; rfl, kr⟩
        case round =>
          obtain ⟨j, hj, rfl, rfl, kr2⟩ := hrel
          by_cases hjm : j < m
          · obtain ⟨g', off', hg', s1, s2⟩ := HS.out _ kr2 j (by omega)
            obtain ⟨rfl, rfl⟩ : g = g' ∧ off = off' := by simpa using hg'
            have HVj := Lib.hid (HV.out j (by omega))
            have hvl := HVL.out j
            clear HS HV HVL HO HTm hg'
            generalize hcj : p j = c at *
            obtain ⟨x2, hx2⟩ : ∃ x2, vm (j + 1) = x2 := ⟨_, rfl⟩
            rw [hx2] at HVj
            obtain ⟨x, hx⟩ : ∃ x, vm j = x := ⟨_, rfl⟩
            rw [hx] at HVj hvl ⊢
            have hc2 : c.toNat < 256 := c.toNat_lt
            have hc1 : bn c = (c.toNat : Int) := rfl
            have q1 : (bn c).tmod 128 = (c.toNat : Int) % 128 := by rw [hc1, Int.tmod_eq_emod_of_nonneg (by omega)]
            have q2 : IntKind.u8.wrap ((c.toNat : Int) % 128) = (c.toNat : Int) % 128 := by rw [IntKind.wrap_u8]; omega
            have q3 : IntKind.u64.wrap ((c.toNat : Int) % 128) = (c.toNat : Int) % 128 := by rw [IntKind.wrap_u64]; omega
            have q4 : IntKind.u64.wrap (128 * (x : Int)) = ((128 * x % 18446744073709551616 : Nat) : Int) := by rw [IntKind.wrap_u64]; omega
            have q5 : IntKind.u64.wrap (((128 * x % 18446744073709551616 : Nat) : Int) + (c.toNat : Int) % 128) = (x2 : Int) := by rw [IntKind.wrap_u64, HVj.out]; omega
            generalize 128 * x % 18446744073709551616 = y at q4 q5
            clear hc1
            go_wp2
            refine ⟨⟨j + 1, by omega, by go_num, by rw [hx2], (by (try show Ex _ _); repeat (first | (with_reducible exact ex_refl _) | (with_reducible assumption) | (with_reducible refine ex_drewL ?_) | (with_reducible refine ex_appR ?_ _) | (with_reducible refine ex_wx ?_ _) | (with_reducible refine ex_drew ?_) | (with_reducible refine ex_alloc ?_ _)))⟩, by simp [intOf]; omega⟩
          · obtain rfl : j = m := by omega
            have hvl := HVL.out j
            clear hjm hj HS HV HVL
            generalize vm j = x at *
            generalize htq : tk j = tq at *
            clear htq
            go_wp2
            refine wp_region_mix [(0, true), (2, true), (3, true), (4, true), (1, false), (5, false)] 6 (by kernel_rfl) (by kernel_rfl) (fun _ _ d _ _ h => by cases d <;> exact h) ?_
            simp only [List.map_cons, List.map_nil, nth, List.drop_succ_cons, List.drop_zero]
            repeat (first | (refine wpMix_look ?_; go_big_quiet_step (fail); refine wpQuiet_nil ?_) | (refine wpMix_eff rfl (fun X1 => ?_); go_wp2_with (first | (go_at_call 12; (with_reducible refine (refshort_any x _ hvl).mono ?_); rintro e w' ⟨v, rfl, hO, X, rfl⟩; (simp only [wx_wx] at hO)) | (go_at_call 10; (with_reducible refine (sameL_any _ _ _ _ _ (hO.slt.ex (by (try show Ex _ _); repeat (first | (with_reducible exact ex_refl _) | (with_reducible assumption) | (with_reducible refine ex_drewL ?_) | (with_reducible refine ex_appR ?_ _) | (with_reducible refine ex_wx ?_ _) | (with_reducible refine ex_drew ?_) | (with_reducible refine ex_alloc ?_ _)))) (HTm.out _ (by (try show Ex _ _); repeat (first | (with_reducible exact ex_refl _) | (with_reducible assumption) | (with_reducible refine ex_drewL ?_) | (with_reducible refine ex_appR ?_ _) | (with_reducible refine ex_wx ?_ _) | (with_reducible refine ex_drew ?_) | (with_reducible refine ex_alloc ?_ _))))).mono ?_); rintro e w' ⟨rfl, X3, rfl⟩)); refine mixQ_mk (by first | exact ex_refl _ | exact ⟨_, rfl⟩ | exact ex_app _ _ _ | (simp only [wx_wx, wx_drew]; first | exact ex_refl _ | exact ex_app _ _ _ | exact ⟨_, rfl⟩) | (repeat (first | exact ex_refl _ | refine ex_drew ?_ | refine ex_alloc ?_ _ | refine ex_wx ?_ _))) ?_))
            refine wpMix_nil (fun X2 => ?_)
            have e7 := HO.out
            by_cases hq : shortL x = tq
            · rw [if_pos hq] at e7
              subst e7
              have e8 : decide (shortL x = tq) = true := decide_eq_true hq
              rw [e8]
              clear HO hq e8
              go_wp2
              go_ret3
              exact post_mk rfl (by (try show Ex _ _); repeat (first | (with_reducible exact ex_refl _) | (with_reducible assumption) | (with_reducible refine ex_drewL ?_) | (with_reducible refine ex_appR ?_ _) | (with_reducible refine ex_wx ?_ _) | (with_reducible refine ex_drew ?_) | (with_reducible refine ex_alloc ?_ _)))
            · rw [if_neg hq] at e7
              subst e7
              have e8 : decide (shortL x = tq) = false := decide_eq_false hq
              rw [e8]
              clear HO hq e8
              go_wp2
              go_ret3
              exact post_mk rfl (by (try show Ex _ _); repeat (first | (with_reducible exact ex_refl _) | (with_reducible assumption) | (with_reducible refine ex_drewL ?_) | (with_reducible refine ex_appR ?_ _) | (with_reducible refine ex_wx ?_ _) | (with_reducible refine ex_drew ?_) | (with_reducible refine ex_alloc ?_ _)))
    · have e7 := HN.out k hk HK.out (by omega)
      subst e7
      clear HN HF2 HT2 HV HVL HS HK
      by_cases h10 : k = 10
      · have e1 : ¬ ((k : Int) + 1) ≤ 10 := by omega
        go_wp2
        go_ret3
        exact post_mk rfl (by (try show Ex _ _); repeat (first | (with_reducible exact ex_refl _) | (with_reducible assumption) | (with_reducible refine ex_drewL ?_) | (with_reducible refine ex_appR ?_ _) | (with_reducible refine ex_wx ?_ _) | (with_reducible refine ex_drew ?_) | (with_reducible refine ex_alloc ?_ _)))
      · have e1 : ((k : Int) + 1) ≤ 10 := by omega
        have e2 : ¬ ((k : Int) + 1) ≤ n := by omega
        go_wp2
        go_ret3
        exact post_mk rfl (by (try show Ex _ _); repeat (first | (with_reducible exact ex_refl _) | (with_reducible assumption) | (with_reducible refine ex_drewL ?_) | (with_reducible refine ex_appR ?_ _) | (with_reducible refine ex_wx ?_ _) | (with_reducible refine ex_drew ?_) | (with_reducible refine ex_alloc ?_ _)))
end Go.Proofs.YtpcfkjeikhehaaaDoor

/- Messages: small functions. -/
set_option linter.unusedSimpArgs false
set_option linter.unusedVariables false
set_option maxRecDepth 20000
namespace Go.Proofs.YtpcfkjeikhehaaaDoor
open Go.RowKit
def countsF : Nat → Int
  | 1 => 2 | 2 => 1 | 3 => 14 | 4 => 3 | 5 => 50 | _ => 0
structure FGlob (w : World) : Prop where
  g : Glob w
  c : cellsN w 1 0 6 = some (rowI 6 countsF)
  z : 1 < w.heap.size
theorem FGlob.ex {w w' : World} (h : FGlob w) (k : Ex w w') : FGlob w' := by
  obtain ⟨X, rfl⟩ := k
  exact ⟨h.g.wx X, by rw [cellsN_congr fun j _ => wx_cell w X _ h.z]; exact h.c, by rw [wx_size]; exact Nat.lt_of_lt_of_le h.z (Nat.le_add_right _ _)⟩
theorem FGlob.at {w : World} (h : FGlob w) (i : Nat) (hi : i < 6) : w.cell? ⟨1, i, none⟩ = some (I (countsF i)) := by
  have := (cellsN_some.1 h.c).2 i hi
  rw [Nat.zero_add] at this
  rw [this, rowI_get, if_pos hi]
def zeroB (k : Int) (en mn dn : Nat) (ok : Bool) (pi pt cm : UInt64) : Bool := (hasE k || en == 0) && (hasM k || mn == 0) && (hasD k || dn == 0) && (hasO k || !ok) && (hasP k || (decide (pi = 0) && decide (pt = 0))) && (hasC k || decide (cm = 0))
theorem ln_zero (x : UInt64) : (ln x == 0) = decide (x = 0) := by
  rw [Bool.eq_iff_iff, beq_iff_eq, decide_eq_true_eq]
  exact ⟨fun h => ln_inj (y := 0) (by rw [h]; rfl), fun h => by rw [h]; rfl⟩
theorem ln_eq0 (x : UInt64) : (ln x = 0) = (x = 0) := by
  have := ln_zero x
  rw [Bool.eq_iff_iff, beq_iff_eq, decide_eq_true_eq] at this
  exact propext this
set_option maxHeartbeats 2000000 in
theorem bare_any (k : Nat) (w : World) (G : FGlob w) (h1 : 1 ≤ k) (h5 : k ≤ 5) (fr to : Int) (tm pi pt cm : UInt64) (ea ma da : Option Addr) (en ec mn mc dn dc : Nat) (ok : Bool) :
    Calls Tryd.prog 33 #[.agg #[I k, I fr, I to, L tm, L pi, L pt, .slice ea en ec, L cm, .bool ok, .slice ma mn mc, .slice da dn dc]] w (Post w (.bool (zeroB k en mn dn ok pi pt cm))) := by
  have z1 := G.z
  have hk : k = 1 ∨ k = 2 ∨ k = 3 ∨ k = 4 ∨ k = 5 := by omega
  clear h1 h5
  rcases hk with rfl | rfl | rfl | rfl | rfl
  · have c1 := G.at 1 (by omega)
    simp only [countsF] at c1
    go_enter Tryd.func33, Tryd.ntmps33
    go_wp2
    all_goals (go_ret; refine post_mk (congrArg (fun b => Ending.returned (.bool b)) ?_) (by (try show Ex _ _); repeat (first | (with_reducible exact ex_refl _) | (with_reducible assumption) | (with_reducible refine ex_drewL ?_) | (with_reducible refine ex_appR ?_ _) | (with_reducible refine ex_wx ?_ _) | (with_reducible refine ex_drew ?_) | (with_reducible refine ex_alloc ?_ _))); simp_all [zeroB, hasE, hasM, hasD, hasO, hasP, hasC, ln_zero, ln_eq0])
  · have c1 := G.at 2 (by omega)
    simp only [countsF] at c1
    go_enter Tryd.func33, Tryd.ntmps33
    go_wp2
    all_goals (go_ret; refine post_mk (congrArg (fun b => Ending.returned (.bool b)) ?_) (by (try show Ex _ _); repeat (first | (with_reducible exact ex_refl _) | (with_reducible assumption) | (with_reducible refine ex_drewL ?_) | (with_reducible refine ex_appR ?_ _) | (with_reducible refine ex_wx ?_ _) | (with_reducible refine ex_drew ?_) | (with_reducible refine ex_alloc ?_ _))); simp_all [zeroB, hasE, hasM, hasD, hasO, hasP, hasC, ln_zero, ln_eq0])
  · have c1 := G.at 3 (by omega)
    simp only [countsF] at c1
    go_enter Tryd.func33, Tryd.ntmps33
    go_wp2
    all_goals (go_ret; refine post_mk (congrArg (fun b => Ending.returned (.bool b)) ?_) (by (try show Ex _ _); repeat (first | (with_reducible exact ex_refl _) | (with_reducible assumption) | (with_reducible refine ex_drewL ?_) | (with_reducible refine ex_appR ?_ _) | (with_reducible refine ex_wx ?_ _) | (with_reducible refine ex_drew ?_) | (with_reducible refine ex_alloc ?_ _))); simp_all [zeroB, hasE, hasM, hasD, hasO, hasP, hasC, ln_zero, ln_eq0])
  · have c1 := G.at 4 (by omega)
    simp only [countsF] at c1
    go_enter Tryd.func33, Tryd.ntmps33
    go_wp2
    all_goals (go_ret; refine post_mk (congrArg (fun b => Ending.returned (.bool b)) ?_) (by (try show Ex _ _); repeat (first | (with_reducible exact ex_refl _) | (with_reducible assumption) | (with_reducible refine ex_drewL ?_) | (with_reducible refine ex_appR ?_ _) | (with_reducible refine ex_wx ?_ _) | (with_reducible refine ex_drew ?_) | (with_reducible refine ex_alloc ?_ _))); simp_all [zeroB, hasE, hasM, hasD, hasO, hasP, hasC, ln_zero, ln_eq0])
  · have c1 := G.at 5 (by omega)
    simp only [countsF] at c1
    go_enter Tryd.func33, Tryd.ntmps33
    go_wp2
    all_goals (go_ret; refine post_mk (congrArg (fun b => Ending.returned (.bool b)) ?_) (by (try show Ex _ _); repeat (first | (with_reducible exact ex_refl _) | (with_reducible assumption) | (with_reducible refine ex_drewL ?_) | (with_reducible refine ex_appR ?_ _) | (with_reducible refine ex_wx ?_ _) | (with_reducible refine ex_drew ?_) | (with_reducible refine ex_alloc ?_ _))); simp_all [zeroB, hasE, hasM, hasD, hasO, hasP, hasC, ln_zero, ln_eq0])
end Go.Proofs.YtpcfkjeikhehaaaDoor
