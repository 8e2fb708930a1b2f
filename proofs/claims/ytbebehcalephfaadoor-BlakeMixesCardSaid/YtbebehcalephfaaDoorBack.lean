/- BlakeBack: what it does. -/
import Derived.Test.YtbebehcalephfaaDoorLaws1
set_option linter.unusedSimpArgs false
set_option linter.unusedVariables false
set_option maxRecDepth 20000
namespace Go.Proofs.YtbebehcalephfaaDoor
open Go.RowKit
theorem rr_nat (x : UInt32) (k : Nat) (hk : 0 < k ∧ k < 32) : (rr x k).toNat = x.toNat / 2 ^ k + (x.toNat % 2 ^ k) * 2 ^ (32 - k) := by
  have hx := x.toNat_lt
  unfold rr
  rw [UInt32.toNat_or, UInt32.toNat_shiftRight, UInt32.toNat_shiftLeft]
  rw [show (UInt32.ofNat k).toNat % 32 = k by simp; omega, show (UInt32.ofNat (32 - k)).toNat % 32 = 32 - k by simp; omega, Nat.shiftRight_eq_div_pow]
  have h1 : x.toNat <<< (32 - k) % 2 ^ 32 = (x.toNat % 2 ^ k) <<< (32 - k) := by
    rw [Nat.shiftLeft_eq, Nat.shiftLeft_eq, show (2 : Nat) ^ 32 = 2 ^ k * 2 ^ (32 - k) by rw [← Nat.pow_add]; congr 1; omega, Nat.mul_mod_mul_right]
  rw [h1]
  refine or_shl _ _ _ ?_
  rw [Nat.div_lt_iff_lt_mul (Nat.two_pow_pos k), ← Nat.pow_add, show 32 - k + k = 32 by omega]
  exact hx
theorem rr_inv (x : UInt32) (k : Nat) (hk : 0 < k ∧ k < 32) : rr (rr x k) (32 - k) = x := by
  apply UInt32.toNat_inj.1
  have hx := x.toNat_lt
  rw [rr_nat _ _ (by omega), rr_nat x k hk, show 32 - (32 - k) = k by omega]
  have h1 : x.toNat / 2 ^ k < 2 ^ (32 - k) := by
    rw [Nat.div_lt_iff_lt_mul (Nat.two_pow_pos k), ← Nat.pow_add, show 32 - k + k = 32 by omega]; exact hx
  rw [Nat.add_mul_div_right _ _ (Nat.two_pow_pos _), Nat.div_eq_of_lt h1, Nat.zero_add, Nat.add_mul_mod_self_right, Nat.mod_eq_of_lt h1]
  rw [Nat.add_comm, Nat.mul_comm]; exact Nat.div_add_mod _ _
theorem rr7 (x : UInt32) : rr (rr x 7) 25 = x := rr_inv x 7 (by omega)
theorem rr8 (x : UInt32) : rr (rr x 8) 24 = x := rr_inv x 8 (by omega)
theorem rr12 (x : UInt32) : rr (rr x 12) 20 = x := rr_inv x 12 (by omega)
theorem rr16 (x : UInt32) : rr (rr x 16) 16 = x := rr_inv x 16 (by omega)
theorem rr25 (x : UInt32) : rr (rr x 25) 7 = x := rr_inv x 25 (by omega)
theorem rr24 (x : UInt32) : rr (rr x 24) 8 = x := rr_inv x 24 (by omega)
theorem rr20 (x : UInt32) : rr (rr x 20) 12 = x := rr_inv x 20 (by omega)
theorem xx (a b : UInt32) : a ^^^ b ^^^ b = a := by rw [UInt32.xor_assoc, UInt32.xor_self, UInt32.xor_zero]
theorem as' (a b : UInt32) : a + b - b = a := UInt32.add_sub_cancel a b
theorem sa (a b : UInt32) : a - b + b = a := UInt32.sub_add_cancel a b
def unmixL (f : Nat → UInt32) (x y : UInt32) : Nat → UInt32 := fun k => (unmix4 (f 0) (f 1) (f 2) (f 3) x y).getD k 0
def mixF (f : Nat → UInt32) (x y : UInt32) : Nat → UInt32 := mixL (f 0) (f 1) (f 2) (f 3) x y
theorem unmix_mix (f : Nat → UInt32) (x y : UInt32) (i : Nat) (hi : i < 4) : unmixL (mixF f x y) x y i = f i := by
  have h4 : i = 0 ∨ i = 1 ∨ i = 2 ∨ i = 3 := by omega
  have e : unmix4 (mixF f x y 0) (mixF f x y 1) (mixF f x y 2) (mixF f x y 3) x y = [f 0, f 1, f 2, f 3] := by
    simp only [unmix4, mixF, mixL, mix4, List.getD_cons_zero, List.getD_cons_succ, rr7, rr8, rr12, rr16, xx, as']
  unfold unmixL
  rw [e]
  rcases h4 with rfl | rfl | rfl | rfl <;> rfl
theorem mix_unmix (f : Nat → UInt32) (x y : UInt32) (i : Nat) (hi : i < 4) : mixF (unmixL f x y) x y i = f i := by
  have h4 : i = 0 ∨ i = 1 ∨ i = 2 ∨ i = 3 := by omega
  have e : mix4 (unmixL f x y 0) (unmixL f x y 1) (unmixL f x y 2) (unmixL f x y 3) x y = [f 0, f 1, f 2, f 3] := by
    simp only [mix4, unmixL, unmix4, List.getD_cons_zero, List.getD_cons_succ, rr25, rr24, rr20, rr16, xx, sa]
  unfold mixF mixL
  rw [e]
  rcases h4 with rfl | rfl | rfl | rfl <;> rfl
theorem mix_row4 (f : Nat → UInt32) (x y : UInt32) (w : World) : Calls Tryd.prog 13 #[.agg (rowU 4 f), U x, U y] w (Post w (.agg (rowU 4 (mixF f x y)))) := mix_rowed _ _ _ _ x y w
theorem unmix_row4 (f : Nat → UInt32) (x y : UInt32) (w : World) : Calls Tryd.prog 24 #[.agg (rowU 4 f), U x, U y] w (Post w (.agg (rowU 4 (unmixL f x y)))) := unmix_any _ _ _ _ x y w
theorem unmix_mixed (f : Nat → UInt32) (x y : UInt32) (w : World) : Calls Tryd.prog 24 #[.agg (rowU 4 (mixF f x y)), U x, U y] w (Post w (.agg (rowU 4 f))) := by
  have h := unmix_row4 (mixF f x y) x y w
  rwa [rowU_congr (unmix_mix f x y)] at h
theorem mix_unmixed (f : Nat → UInt32) (x y : UInt32) (w : World) : Calls Tryd.prog 13 #[.agg (rowU 4 (unmixL f x y)), U x, U y] w (Post w (.agg (rowU 4 f))) := by
  have h := mix_row4 (unmixL f x y) x y w
  rwa [rowU_congr (mix_unmix f x y)] at h
/-! ### Rows of truths -/
def rowO (n : Nat) (f : Nat → Bool) : Array Value := ((List.range n).map fun i => Value.bool (f i)).toArray
@[go_sem, simp] theorem rowO_size (n : Nat) (f : Nat → Bool) : (rowO n f).size = n := by simp [rowO]
@[go_sem] theorem rowO_get (n : Nat) (f : Nat → Bool) (i : Nat) : (rowO n f)[i]? = if i < n then some (.bool (f i)) else none := by
  simp only [rowO, List.getElem?_toArray, List.getElem?_map, List.getElem?_range]
  by_cases h : i < n <;> simp [h]
@[go_sem, simp] theorem rowO_at (n : Nat) (f : Nat → Bool) (i : Nat) (h : i < (rowO n f).size) : (rowO n f)[i] = .bool (f i) := by
  have := rowO_get n f i
  rw [Array.getElem?_eq_getElem h, if_pos (by simpa using h)] at this
  exact Option.some.inj this
@[go_sem] theorem rowO_set (n : Nat) (f : Nat → Bool) (i : Nat) (x : Bool) : (rowO n f).setIfInBounds i (.bool x) = rowO n (upd f i x) := by
  apply arr_ext; intro j
  rw [Array.getElem?_setIfInBounds, rowO_get, rowO_get]
  simp only [rowO_size, upd]
  by_cases hij : i = j
  · subst hij; simp
  · simp [hij, Ne.symm hij]
@[go_sem] theorem alloc_falses (w : World) (t : TypeId) : w.alloc (.cells #[.bool false, .bool false, .bool false, .bool false, .bool false, .bool false, .bool false, .bool false, .bool false, .bool false, .bool false, .bool false, .bool false, .bool false, .bool false, .bool false] t) = w.alloc (.cells (rowO 16 (fun _ => false)) t) := rfl
def metK (s : Nat → Nat) : Nat → (Nat → Bool)
  | 0 => fun _ => false
  | k + 1 => upd (metK s k) (s k) true
theorem metK_true (s : Nat → Nat) (k j : Nat) (h : metK s k j = true) : ∃ i, i < k ∧ s i = j := by
  induction k with
  | zero => cases h
  | succ k ih =>
    unfold metK upd at h
    by_cases hj : j = s k
    · exact ⟨k, by omega, hj.symm⟩
    · rw [if_neg hj] at h
      obtain ⟨i, hi, e⟩ := ih h
      exact ⟨i, by omega, e⟩
theorem orders_apart : ∀ (n : Fin 10) (i j : Fin 16), ordersN.getD (n.val * 16 + i.val) 0 = ordersN.getD (n.val * 16 + j.val) 0 → i = j := by decide +kernel
set_option maxHeartbeats 2000000 in
theorem back_any (f : Nat → UInt32) (x y : UInt32) (w : World) (G : Glob w) :
    Calls Tryd.prog 7 #[.agg (rowU 4 f), U x, U y] w (Post w (.bool true)) := by
  go_enter Tryd.func7, Tryd.ntmps7
  go_wp2_with (go_at_call 10; refine (wakes_any _ (G.ex (by repeat (first | exact ex_refl _ | refine ex_appR ?_ _ | refine ex_wx ?_ _ | refine ex_drew ?_ | refine ex_alloc ?_ _)))).mono ?_; rintro e w' ⟨rfl, X, rfl⟩)
  refine wp_region_mix [(0, true), (1, true), (2, true), (4, true), (5, true), (7, true), (3, false), (6, false), (8, true), (9, true), (10, true), (11, true), (12, true), (14, true), (15, true), (17, true), (13, false), (16, false), (18, true), (19, true)] 20 (by kernel_rfl) (by kernel_rfl) (fun _ _ d _ _ h => by cases d <;> exact h) ?_
  simp only [List.map_cons, List.map_nil, nth, List.drop_succ_cons, List.drop_zero]
  repeat (first | (refine wpMix_look ?_; go_big_quiet_step (fail); refine wpQuiet_nil ?_) | (refine wpMix_eff rfl (fun X1 => ?_); go_wp2_with (first | (go_at_call 13; first | ((with_reducible refine (mix_unmixed _ _ _ _).mono ?_); rintro e w' ⟨rfl, X, rfl⟩) | ((with_reducible refine (mix_row4 _ _ _ _).mono ?_); rintro e w' ⟨rfl, X, rfl⟩)) | (go_at_call 24; first | ((with_reducible refine (unmix_mixed _ _ _ _).mono ?_); rintro e w' ⟨rfl, X, rfl⟩) | ((with_reducible refine (unmix_row4 _ _ _ _).mono ?_); rintro e w' ⟨rfl, X, rfl⟩))); refine mixQ_mk (by first | exact ex_refl _ | exact ⟨_, rfl⟩ | exact ex_app _ _ _ | (simp only [wx_wx, wx_drew]; first | exact ex_refl _ | exact ex_app _ _ _ | exact ⟨_, rfl⟩) | (repeat (first | exact ex_refl _ | refine ex_drew ?_ | refine ex_alloc ?_ _ | refine ex_wx ?_ _))) ?_) | (refine wpMix_effF (by rfl) ?_; go_simp) | (refine wpMix_effT (by rfl) (fun X1 => ?_); go_wp2_with (first | (go_at_call 13; first | ((with_reducible refine (mix_unmixed _ _ _ _).mono ?_); rintro e w' ⟨rfl, X, rfl⟩) | ((with_reducible refine (mix_row4 _ _ _ _).mono ?_); rintro e w' ⟨rfl, X, rfl⟩)) | (go_at_call 24; first | ((with_reducible refine (unmix_mixed _ _ _ _).mono ?_); rintro e w' ⟨rfl, X, rfl⟩) | ((with_reducible refine (unmix_row4 _ _ _ _).mono ?_); rintro e w' ⟨rfl, X, rfl⟩))); refine mixQ_mk (by first | exact ex_refl _ | exact ⟨_, rfl⟩ | exact ex_app _ _ _ | (simp only [wx_wx, wx_drew]; first | exact ex_refl _ | exact ex_app _ _ _ | exact ⟨_, rfl⟩) | (repeat (first | exact ex_refl _ | refine ex_drew ?_ | refine ex_alloc ?_ _ | refine ex_wx ?_ _))) ?_))
  refine wpMix_nil (fun X2 => ?_)
  go_wp2_with (go_at_call 15; refine (orders_glob G (by repeat (first | exact ex_refl _ | refine ex_appR ?_ _ | refine ex_wx ?_ _ | refine ex_drew ?_ | refine ex_alloc ?_ _))).mono ?_; rintro e w' ⟨rfl, X, rfl⟩)
  go_loopw [35] (fun i wr => ∃ n : Nat, n ≤ 10 ∧ i = I n ∧ Ex (w.alloc (.cells (rowU 4 f) 31)) wr) (fun i _ => 10 - (intOf i).toNat)
  case atStart => exact ⟨0, by omega, rfl, (by repeat (first | exact ex_refl _ | refine ex_appR ?_ _ | refine ex_wx ?_ _ | refine ex_drew ?_ | refine ex_alloc ?_ _))⟩
  case round =>
    obtain ⟨n, hn, rfl, X0, rfl⟩ := hrel
    by_cases hlt : n < 10
    · go_wp2
      rw [ordersF_shift]
      have hlt' : ((n : Nat) : Int) < 10 := by omega
      simp only [hlt', decide_true]
      obtain ⟨s, hs⟩ : ∃ s : Nat → Nat, s = fun j => ordersN.getD (n * 16 + j) 0 := ⟨_, rfl⟩
      rw [← hs]
      have hsl : ∀ j, s j < 16 := by subst hs; exact fun j => ord_lt _
      have hap : ∀ i j, i < 16 → j < 16 → s i = s j → i = j := by
        subst hs
        intro i j hi hj h
        have := orders_apart ⟨n, hlt⟩ ⟨i, hi⟩ ⟨j, hj⟩ h
        exact congrArg Fin.val this
      have HAP := Lib.hid hap
      have HSL := Lib.hid hsl
      clear hs hap hsl
      go_loopw [39] (fun i wr => ∃ k : Nat, k ≤ 16 ∧ i = I k ∧ wr = ((wx (w.alloc (.cells (rowU 4 f) 31)) X0).alloc (.cells (rowI 16 (natI s)) 35)).alloc (.cells (rowO 16 (metK s k)) 52)) (fun i _ => 16 - (intOf i).toNat)
      case atStart => exact ⟨0, by omega, rfl, rfl⟩
      case round =>
        obtain ⟨k, hk, rfl, rfl⟩ := hrel
        by_cases hlk : k < 16
        · have hlk' : ((k : Nat) : Int) < 16 := by omega
          have h1 : s k < 16 := HSL.out k
          have h2 : ((s k : Nat) : Int) < 16 := by omega
          have h3 : ¬ ((s k : Nat) : Int) > 15 := by omega
          have h4 : metK s k (s k) = false := by
            rw [← Bool.not_eq_true]
            intro h
            obtain ⟨i, hi, e⟩ := metK_true s k _ h
            have := HAP.out i k (by omega) hlk e
            omega
          have h0 : ¬ ((s k : Nat) : Int) < 0 := by omega
          go_wp2
          refine ⟨⟨k + 1, by omega, by go_num, rfl⟩, by simp [intOf]; omega⟩
        · obtain rfl : k = 16 := by omega
          clear hlk hk
          go_wp2
          refine ⟨⟨n + 1, by omega, by go_num, (by repeat (first | exact ex_refl _ | refine ex_appR ?_ _ | refine ex_wx ?_ _ | refine ex_drew ?_ | refine ex_alloc ?_ _))⟩, by simp [intOf]; omega⟩
    · obtain rfl : n = 10 := by omega
      simp only [Int.cast_ofNat_Int]
      clear hlt hn
      go_wp2
      go_ret
      exact post_mk rfl (by repeat (first | exact ex_refl _ | refine ex_appR ?_ _ | refine ex_wx ?_ _ | refine ex_drew ?_ | refine ex_alloc ?_ _))
end Go.Proofs.YtbebehcalephfaaDoor
