import Derived.Test.YtcdocklbpfdmeaaDoorMMix
import Derived.Test.YtcdocklbpfdmeaaDoorMSl
import Derived.Test.YtcdocklbpfdmeaaDoorMApp
import Derived.Test.YtcdocklbpfdmeaaDoorMSum

/- The reference's Mix. -/
set_option linter.unusedSimpArgs false
set_option linter.unusedVariables false
set_option maxRecDepth 20000
namespace Go.Proofs.YtcdocklbpfdmeaaDoor
open Go.RowKit
set_option maxHeartbeats 400000 in
theorem refmix_any (a b c d x y : UInt32) (w : World) :
    Calls Tryd.prog 151 #[.agg #[U a, U b, U c, U d], U x, U y] w (Post w (.agg ((mix4 a b c d x y).map U).toArray)) := by
  go_enter Tryd.func151, Tryd.ntmps151
  go_wp2
  go_region
  go_wp2_with (go_at_call 155; ((with_reducible (first | refine (turned16 _ _).mono ?_ | refine (turned12 _ _).mono ?_ | refine (turned8 _ _).mono ?_ | refine (turned7 _ _).mono ?_)); rintro e w' ⟨rfl, rfl⟩))
  refine bodyPost_ret (v := .agg ((mix4 a b c d x y).map U).toArray) (by simp [results, Tryd.results151, go_sem, mix4, UInt32.add_assoc]) rfl (post_mk rfl ?_)
  repeat (first | exact ex_refl _ | refine ex_drew ?_ | refine ex_alloc ?_ _ | refine ex_wx ?_ _)
end Go.Proofs.YtcdocklbpfdmeaaDoor

/- The document's Block: what it does. -/
set_option linter.unusedSimpArgs false
set_option linter.unusedVariables false
set_option maxRecDepth 20000
namespace Go.Proofs.YtcdocklbpfdmeaaDoor
open Go.RowKit
theorem refmix_rowed (a b c d x y : UInt32) (w : World) :
    Calls Tryd.prog 151 #[.agg #[U a, U b, U c, U d], U x, U y] w (Post w (.agg (rowU 4 (mixL a b c d x y)))) := refmix_any a b c d x y w

set_option maxHeartbeats 1000000 in
theorem mixed_any (v : Nat → UInt32) (p : Nat → Nat) (hpl : ∀ j, p j < 16) (x y : UInt32) (w : World) :
    Calls Tryd.prog 140 #[.agg (rowU 16 v), .string (strD 4 p), U x, U y] w (Post w (.agg (rowU 16 (step v p x y)))) := by
  have q0 : ((p 0 : Nat) : Int) < 16 := by have := hpl 0; omega
  have q1 : ((p 1 : Nat) : Int) < 16 := by have := hpl 1; omega
  have q2 : ((p 2 : Nat) : Int) < 16 := by have := hpl 2; omega
  have q3 : ((p 3 : Nat) : Int) < 16 := by have := hpl 3; omega
  go_enter Tryd.func140, Tryd.ntmps140
  go_wp2
  refine wp_region_late [(0, true), (1, true), (5, true), (6, true), (10, true), (11, true), (15, true), (16, true), (21, true), (22, true), (2, false), (3, true), (4, true), (7, false), (8, true), (9, true), (12, false), (13, true), (14, true), (17, false), (18, true), (19, true), (20, true), (23, false)] 25 [(24, some 9, (.cells (rowU 4 fun _ => 0) 197))] (by kernel_rfl) (by kernel_rfl) rfl (by intro x hx ρ W; simp only [List.mem_cons, List.not_mem_nil, or_false] at hx; repeat (first | subst hx | (rcases hx with rfl | hx)); all_goals (first | (simp [nth, go_sem, ptr]; done) | (simp [nth, go_sem, ptr]; rfl))) (fun _ _ d _ _ h => by cases d <;> exact h) (fun _ _ d _ _ h => by cases d <;> exact h) ?_
  simp only [List.map_cons, List.map_nil, nth, List.drop_succ_cons, List.drop_zero, lateR]
  repeat (first | (refine wpMix_look ?_; go_big_quiet_step (fail); refine wpQuiet_nil ?_) | (refine wpMix_eff rfl (fun X1 => ?_); go_wp2_with (first | (go_at_call 141; refine (digit_place _ (hpl _) _).mono ?_; rintro e w' ⟨rfl, rfl⟩) | (go_at_call 151; refine (refmix_rowed _ _ _ _ _ _ _).mono ?_; rintro e w' ⟨rfl, X, rfl⟩)); refine mixQ_mk (by first | exact ex_refl _ | exact ⟨_, rfl⟩ | exact ex_app _ _ _ | (simp only [wx_wx, wx_drew]; first | exact ex_refl _ | exact ex_app _ _ _ | exact ⟨_, rfl⟩) | (repeat (first | exact ex_refl _ | refine ex_drew ?_ | refine ex_alloc ?_ _ | refine ex_wx ?_ _))) ?_))
  refine wpMix_nil (fun X2 => ?_)
  intro q hq
  simp only [wx_wx, wx_heap_more, ptr] at hq ⊢
  generalize (((((_ : More).app _).app _).app _).app _).app _ = Y at hq ⊢
  go_wp2
  generalize hl : mixL (v (p 0)) (v (p 1)) (v (p 2)) (v (p 3)) x y = l
  obtain ⟨Z, hZ⟩ : ∃ Z, Z = Y.sets q 0 (rowU 4 l).toList := ⟨_, rfl⟩
  have hz : Z.at q = some (.cells (rowU 4 l) 197) := by subst hZ; simp [go_sem, hq]
  have hzl : q < Z.blocks.length := (List.getElem?_eq_some_iff.1 hz).1
  rw [← hZ]
  clear hZ hq
  have eu : stepK v p l 4 = step v p x y := by rw [← hl]; rfl
  clear hl
  go_loopw [35] (fun i wr => ∃ j : Nat, j ≤ 4 ∧ i = .int .i64 j ∧ Ex (wx ((w.alloc (.cells (rowU 16 (stepK v p l j)) 184)).alloc (.cells (rowU 16 fun _ => 0) 184)) Z) wr) (fun i _ => 4 - (intOf i).toNat)
  case atStart => exact ⟨0, by omega, rfl, ex_refl _⟩
  case round =>
    obtain ⟨j, hj, rfl, X9, rfl⟩ := hrel
    by_cases hlt : j < 4
    · have hpj : ((p j : Nat) : Int) < 16 := by have := hpl j; omega
      have hpj' : ((p j : Nat)) < 16 := hpl j
      go_wp2
      refine wp_region_mix [(0, true), (1, true), (2, true), (4, true), (5, true), (6, true), (3, false), (7, true)] 8 (by kernel_rfl) (by kernel_rfl) (fun _ _ d _ _ h => by cases d <;> exact h) ?_
      simp only [List.map_cons, List.map_nil, nth, List.drop_succ_cons, List.drop_zero]
      repeat (first | (refine wpMix_look ?_; go_big_quiet_step (fail); refine wpQuiet_nil ?_) | (refine wpMix_eff rfl (fun X1 => ?_); go_wp2_with (go_at_call 141; refine (digit_place _ (hpl _) _).mono ?_; rintro e w' ⟨rfl, rfl⟩); refine mixQ_mk (by first | exact ex_refl _ | exact ⟨_, rfl⟩ | exact ex_app _ _ _ | (simp only [wx_wx, wx_drew]; first | exact ex_refl _ | exact ex_app _ _ _ | exact ⟨_, rfl⟩) | (repeat (first | exact ex_refl _ | refine ex_drew ?_ | refine ex_alloc ?_ _ | refine ex_wx ?_ _))) ?_))
      refine wpMix_nil (fun X2 => ?_)
      go_wp2
      refine ⟨⟨j + 1, by omega, by go_num, ?_⟩, by simp [intOf]; omega⟩
      repeat (first | exact ex_refl _ | refine ex_appR ?_ _)
    · obtain rfl : j = 4 := by omega
      clear hlt hj
      rw [eu]
      go_wp2
      exact ret_row (cs := rowU 16 (step v p x y)) Tryd.results140 Tryd.underlying184 rfl info_a16u rfl (by simp [go_sem]) rfl (post_mk rfl (by repeat (first | exact ex_refl _ | refine ex_drew ?_ | refine ex_alloc ?_ _ | refine ex_wx ?_ _)))

attribute [local go_sem] un_mul8 un_mul16 un_mul24
/-- Four bytes, as a sum. -/
theorem or_shl (a b k : Nat) (h : a < 2 ^ k) : a ||| b <<< k = a + b * 2 ^ k := by
  rw [Nat.or_comm, ← Nat.shiftLeft_add_eq_or_of_lt h, Nat.shiftLeft_eq, Nat.add_comm]
theorem leK_nat (f : Nat → UInt8) (k : Nat) (hk : k < 4) : (leK f (k + 1)).toNat = (leK f k).toNat ||| (f k).toNat <<< (8 * k) := by
  have e := (f k).toNat_lt
  have hs : (f k).toNat <<< (8 * k) < 4294967296 := by
    rw [Nat.shiftLeft_eq]
    have h1 : (2:Nat) ^ (8 * k) ≤ 2 ^ 24 := Nat.pow_le_pow_right (by omega) (by omega)
    calc (f k).toNat * 2 ^ (8 * k) ≤ 255 * 2 ^ 24 := Nat.mul_le_mul (by omega) h1
      _ < 4294967296 := by decide
  simp only [leK, UInt32.toNat_or, UInt32.toNat_shiftLeft, UInt8.toNat_toUInt32]
  rw [show (UInt32.ofNat (8 * k)).toNat % 32 = 8 * k by simp; omega, Nat.mod_eq_of_lt hs]
theorem leK_sum (f : Nat → UInt8) : (f 0).toUInt32 + (f 1).toUInt32 <<< 8 + (f 2).toUInt32 <<< 16 + (f 3).toUInt32 <<< 24 = leK f 4 := by
  have e0 := (f 0).toNat_lt; have e1 := (f 1).toNat_lt; have e2 := (f 2).toNat_lt; have e3 := (f 3).toNat_lt
  apply UInt32.toNat_inj.1
  have h0 : (leK f 0).toNat = 0 := rfl
  have h1 : (leK f 1).toNat = (f 0).toNat := by rw [leK_nat f 0 (by omega), h0]; simp
  have h2 : (leK f 2).toNat = (f 0).toNat + (f 1).toNat * 2 ^ 8 := by
    rw [leK_nat f 1 (by omega), h1, or_shl _ _ _ (by omega)]
  have h3 : (leK f 3).toNat = (f 0).toNat + (f 1).toNat * 2 ^ 8 + (f 2).toNat * 2 ^ 16 := by
    rw [leK_nat f 2 (by omega), h2, or_shl _ _ _ (by omega)]
  have h4 : (leK f 4).toNat = (f 0).toNat + (f 1).toNat * 2 ^ 8 + (f 2).toNat * 2 ^ 16 + (f 3).toNat * 2 ^ 24 := by
    rw [leK_nat f 3 (by omega), h3, or_shl _ _ _ (by omega)]
  rw [h4]
  simp [UInt32.toNat_add, UInt32.toNat_shiftLeft, Nat.shiftLeft_eq]
  omega
abbrev refW (w : World) (h : Nat → UInt32) (b : Nat → UInt8) (v m : Nat → UInt32) : World :=
  (((((w.alloc (.cells (rowU 8 h) 158)).alloc (.cells (rowB 64 b) 160)).alloc (.cells (rowU 8 fun _ => 0) 158)).alloc (.cells (rowU 16 m) 184)).alloc (.cells (rowU 16 v) 184))
set_option maxHeartbeats 2000000 in
theorem refblock_any (H : Nat → UInt32) (b : Nat → UInt8) (t : UInt64) (last : Bool) (w : World) :
    Calls Tryd.prog 112 #[.agg (rowU 8 H), .agg (rowB 64 b), L t, .bool last] w (Post w (.agg (rowU 8 (blockF H b t last)))) := by
  go_enter Tryd.func112, Tryd.ntmps112
  go_wp2_with (go_at_call 111; refine (refstart_any _).mono ?_; rintro e w' ⟨rfl, X, rfl⟩)
  go_loopw [19] (fun i wr => ∃ k : Nat, k ≤ 16 ∧ i = .int .i64 k ∧ ∃ m v : Nat → UInt32, (∀ j, j < k → m j = leK (shiftF b (4 * j)) 4) ∧ (∀ j, v j = if j < min k 8 then H j else if 8 ≤ j ∧ j < 8 + min k 8 then startF (j - 8) else 0) ∧ Ex ((wx (refW w H b v m) X).alloc (.cells (rowU 8 startF) 158)) wr) (fun i _ => 16 - (intOf i).toNat)
  case atStart => exact ⟨0, by omega, rfl, _, _, fun j hj => by omega, fun j => by rw [if_neg (by omega), if_neg (by omega)], ex_refl _⟩
  case round =>
    obtain ⟨k, hk, rfl, m, v, hm, hv, X9, rfl⟩ := hrel
    by_cases hlt : k < 16
    · have i0 : 0 ≤ 4 * (k : Int) := by omega
      have i1 : 0 ≤ 4 * (k : Int) + 1 := by omega
      have i2 : 0 ≤ 4 * (k : Int) + 2 := by omega
      have i3 : 0 ≤ 4 * (k : Int) + 3 := by omega
      have j0 : 4 * (k : Int) < 64 := by omega
      have j1 : 4 * (k : Int) + 1 < 64 := by omega
      have j2 : 4 * (k : Int) + 2 < 64 := by omega
      have j3 : 4 * (k : Int) + 3 < 64 := by omega
      have l0 : 4 * k < 64 := by omega
      have l1 : 4 * k + 1 < 64 := by omega
      have l2 : 4 * k + 2 < 64 := by omega
      have l3 : 4 * k + 3 < 64 := by omega
      go_wp2
      refine wp_region_mix [(0, true), (1, true), (2, true), (3, true), (4, true), (5, true), (6, true), (7, true), (8, true), (9, true), (10, true), (11, true), (12, true), (13, true), (14, true), (15, true), (16, true), (17, true), (18, true), (19, true), (20, true), (21, true), (22, true), (23, true), (24, true), (25, true), (26, true), (27, true), (28, true), (29, true), (30, true)] 31 (by kernel_rfl) (by kernel_rfl) (fun _ _ d _ _ h => by cases d <;> exact h) ?_
      simp only [List.map_cons, List.map_nil, nth, List.drop_succ_cons, List.drop_zero]
      repeat (first | (refine wpMix_look ?_; go_big_quiet_step (fail); refine wpQuiet_nil ?_) | (refine wpMix_eff rfl (fun X1 => ?_); go_wp2_with (fail); refine mixQ_mk (by first | exact ex_refl _ | exact ⟨_, rfl⟩ | exact ex_app _ _ _ | (simp only [wx_wx, wx_drew]; first | exact ex_refl _ | exact ex_app _ _ _ | exact ⟨_, rfl⟩) | (repeat (first | exact ex_refl _ | refine ex_drew ?_ | refine ex_alloc ?_ _ | refine ex_wx ?_ _))) ?_))
      refine wpMix_nil (fun X2 => ?_)
      go_wp2
      · go_region
        go_wp2
        rename_i hk8
        refine ⟨⟨k + 1, by omega, by go_num, upd m k ((b (4 * k)).toUInt32 + (b (4 * k + 1)).toUInt32 <<< 8 + (b (4 * k + 2)).toUInt32 <<< 16 + (b (4 * k + 3)).toUInt32 <<< 24), upd (upd v k (H k)) (k + 8) (startF k), fun j hj => ?_, fun j => ?_, ?_⟩, by simp [intOf]; omega⟩
        rotate_left 2
        · repeat (first | exact ex_refl _ | refine ex_appR ?_ _ | refine ex_wx ?_ _ | refine ex_drew ?_)
        · unfold upd
          by_cases hjk : j = k
          · subst hjk; rw [if_pos rfl]; exact leK_sum (shiftF b (4 * j))
          · rw [if_neg hjk]; exact hm j (by omega)
        · have hk9 : k < 8 := by omega
          unfold upd
          by_cases h1 : j = k + 8
          · subst h1; rw [if_pos rfl, if_neg (by omega), if_pos (by omega), Nat.add_sub_cancel]
          · rw [if_neg h1]
            by_cases h2 : j = k
            · subst h2; rw [if_pos rfl, if_pos (by omega)]
            · rw [if_neg h2, hv]
              by_cases h3 : j < min k 8
              · rw [if_pos h3, if_pos (by omega)]
              · rw [if_neg h3, if_neg (by omega : ¬ j < min (k + 1) 8)]
                by_cases h4 : 8 ≤ j ∧ j < 8 + min k 8
                · rw [if_pos h4, if_pos (by omega)]
                · rw [if_neg h4, if_neg (by omega)]
      · refine ⟨⟨k + 1, by omega, by go_num, upd m k ((b (4 * k)).toUInt32 + (b (4 * k + 1)).toUInt32 <<< 8 + (b (4 * k + 2)).toUInt32 <<< 16 + (b (4 * k + 3)).toUInt32 <<< 24), v, fun j hj => ?_, fun j => ?_, ?_⟩, by simp [intOf]; omega⟩
        rotate_left 2
        · repeat (first | exact ex_refl _ | refine ex_appR ?_ _ | refine ex_wx ?_ _)
        · unfold upd
          by_cases hjk : j = k
          · subst hjk; rw [if_pos rfl]; exact leK_sum (shiftF b (4 * j))
          · rw [if_neg hjk]; exact hm j (by omega)
        · rw [hv, show min (k + 1) 8 = min k 8 by omega]
    · obtain rfl : k = 16 := by omega
      clear hlt hk
      have hmw : rowU 16 m = rowU 16 (wordsF b) := rowU_congr hm
      have hvw : rowU 16 v = rowU 16 (over (over (fun _ => 0) 0 8 H) 8 8 startF) := rowU_congr fun j hj => by
        rw [hv]; unfold over
        by_cases h1 : j < 8
        · rw [if_pos (by omega), if_neg (by omega), if_pos (by omega), Nat.sub_zero]
        · rw [if_neg (by omega), if_pos (by omega), if_pos (by omega)]
      simp only [refW, hmw, hvw, Int.cast_ofNat_Int]
      clear hm hmw hvw hv m v
      have eB : blockF H b t last = fun i => H i ^^^ (rndN (wordsF b) (v0F H t last) 10 i ^^^ rndN (wordsF b) (v0F H t last) 10 (i + 8)) := rfl
      obtain ⟨v0, hv0⟩ : ∃ v0, v0F H t last = v0 := ⟨_, rfl⟩
      rw [hv0] at eB
      cases last
      all_goals
        go_wp2
        go_loopw [86] (fun i wr => ∃ n : Nat, n ≤ 10 ∧ i = .int .i64 n ∧ Ex ((wx (refW w H b (rndN (wordsF b) v0 n) (wordsF b)) X).alloc (.cells (rowU 8 startF) 158)) wr) (fun i _ => 10 - (intOf i).toNat)
        case atStart => exact ⟨0, by omega, rfl, by subst hv0; repeat (first | exact ex_refl _ | refine ex_appR ?_ _ | refine ex_wx ?_ _ | refine ex_drew ?_)⟩
        case round =>
          obtain ⟨n, hn, rfl, X0, rfl⟩ := hrel
          by_cases hlt : n < 10
          · generalize hv : rndN (wordsF b) v0 n = v
            obtain ⟨s, hs⟩ : ∃ s : Nat → Nat, s = fun j => ordersN.getD (n * 16 + j) 0 := ⟨_, rfl⟩
            have hO : ∀ w, Calls Tryd.prog 139 #[I n] w fun e w' => e = .returned (.string (strD 16 s)) ∧ w = w' := by
              intro w; subst hs; exact order_any n hlt w
            have hsl : ∀ j, s j < 16 := by subst hs; exact fun j => ord_lt _
            have en : rndI (wordsF b) s v 8 = rndN (wordsF b) v0 (n + 1) := by subst hs; subst hv; rfl
            clear hs hv hv0
            go_wp2_with (go_at_call 139; refine (hO _).mono ?_; rintro e w' ⟨rfl, rfl⟩)
            have hlt' : ((n : Nat) : Int) < 10 := by omega
            try simp only [hlt', decide_true]
            go_loopw [91] (fun i wr => ∃ k : Nat, k ≤ 8 ∧ i = .int .i64 k ∧ Ex ((wx (refW w H b (rndI (wordsF b) s v k) (wordsF b)) X).alloc (.cells (rowU 8 startF) 158)) wr) (fun i _ => 8 - (intOf i).toNat)
            case atStart => exact ⟨0, by omega, rfl, by repeat (first | exact ex_refl _ | refine ex_appR ?_ _ | refine ex_wx ?_ _ | refine ex_drew ?_)⟩
            case round =>
              obtain ⟨k, hk, rfl, X9, rfl⟩ := hrel
              by_cases hlt : k < 8
              · generalize hu : rndI (wordsF b) s v k = u
                go_wp2
                obtain ⟨p, hp⟩ : ∃ p : Nat → Nat, p = fun j => foursN.getD (k * 4 + j) 0 := ⟨_, rfl⟩
                have hf : fourS k = strD 4 p := by subst hp; rfl
                rw [hf]
                have hpl : ∀ j, p j < 16 := by subst hp; exact fun j => four_lt _
                have eu : step u p (wordsF b (s (2 * k))) (wordsF b (s (2 * k + 1))) = rndI (wordsF b) s v (k + 1) := by subst hu; subst hp; rfl
                clear hp hu hf
                have s0 : ((s (2 * k) : Nat) : Int) < 16 := by have := hsl (2 * k); omega
                have s1 : ((s (2 * k + 1) : Nat) : Int) < 16 := by have := hsl (2 * k + 1); omega
                refine wp_region_mix [(0, true), (1, true), (2, true), (3, true), (4, true), (5, true), (9, true), (10, true), (11, true), (12, true), (13, true), (6, false), (7, true), (8, true), (14, false), (15, true), (16, true), (17, false)] 18 (by kernel_rfl) (by kernel_rfl) (fun _ _ d _ _ h => by cases d <;> exact h) ?_
                simp only [List.map_cons, List.map_nil, nth, List.drop_succ_cons, List.drop_zero]
                repeat (first | (refine wpMix_look ?_; go_big_quiet_step (fail); refine wpQuiet_nil ?_) | (refine wpMix_eff rfl (fun X1 => ?_); go_wp2_with (first | (go_at_call 141; refine (digit_place _ (hsl _) _).mono ?_; rintro e w' ⟨rfl, rfl⟩) | (go_at_call 140; refine (mixed_any _ p hpl _ _ _).mono ?_; rintro e w' ⟨rfl, X, rfl⟩)); refine mixQ_mk (by first | exact ex_refl _ | exact ⟨_, rfl⟩ | exact ex_app _ _ _ | (simp only [wx_wx, wx_drew]; first | exact ex_refl _ | exact ex_app _ _ _ | exact ⟨_, rfl⟩) | (repeat (first | exact ex_refl _ | refine ex_drew ?_ | refine ex_alloc ?_ _ | refine ex_wx ?_ _))) ?_))
                refine wpMix_nil (fun X2 => ?_)
                go_wp2
                refine ⟨⟨k + 1, by omega, by go_num, ?_⟩, by simp [intOf]; omega⟩
                try rw [eu]
                repeat (first | exact ex_refl _ | refine ex_appR ?_ _ | refine ex_wx ?_ _ | refine ex_drew ?_)
              · obtain rfl : k = 8 := by omega
                clear hlt hk
                go_wp2
                refine ⟨⟨n + 1, by omega, by go_num, ?_⟩, by simp [intOf]; omega⟩
                try rw [en]
                repeat (first | exact ex_refl _ | refine ex_appR ?_ _ | refine ex_wx ?_ _ | refine ex_drew ?_)
          · obtain rfl : n = 10 := by omega
            clear hlt hn
            generalize hv : rndN (wordsF b) v0 10 = v
            clear hv0
            simp only [Int.cast_ofNat_Int]
            go_wp2
            go_loopw [117] (fun i wr => ∃ j : Nat, j ≤ 8 ∧ i = .int .i64 j ∧ ∃ G : Nat → UInt32, (∀ i, G i = if i < j then H i ^^^ (v i ^^^ v (i + 8)) else H i) ∧ Ex ((wx (refW w G b v (wordsF b)) X).alloc (.cells (rowU 8 startF) 158)) wr) (fun i _ => 8 - (intOf i).toNat)
            case atStart => exact ⟨0, by omega, rfl, H, fun i => by rw [if_neg (by omega)], by repeat (first | exact ex_refl _ | refine ex_appR ?_ _ | refine ex_drew ?_ | refine ex_alloc ?_ _ | refine ex_wx ?_ _)⟩
            case round =>
              obtain ⟨j, hj, rfl, G, hG, X9, rfl⟩ := hrel
              by_cases hlt : j < 8
              · go_wp2
                refine wp_region_mix [(0, true), (1, true), (2, true), (3, true), (4, true), (5, true), (6, true), (7, true), (8, true), (9, true), (10, true), (11, true), (12, true), (13, true)] 14 (by kernel_rfl) (by kernel_rfl) (fun _ _ d _ _ h => by cases d <;> exact h) ?_
                simp only [List.map_cons, List.map_nil, nth, List.drop_succ_cons, List.drop_zero]
                repeat (first | (refine wpMix_look ?_; go_big_quiet_step (fail); refine wpQuiet_nil ?_) | (refine wpMix_eff rfl (fun X1 => ?_); go_wp2_with (fail); refine mixQ_mk (by first | exact ex_refl _ | exact ⟨_, rfl⟩ | exact ex_app _ _ _ | (simp only [wx_wx, wx_drew]; first | exact ex_refl _ | exact ex_app _ _ _ | exact ⟨_, rfl⟩) | (repeat (first | exact ex_refl _ | refine ex_drew ?_ | refine ex_alloc ?_ _ | refine ex_wx ?_ _))) ?_))
                refine wpMix_nil (fun X2 => ?_)
                go_wp2
                all_goals
                  refine ⟨⟨j + 1, by omega, by go_num, upd G j (H j ^^^ v j ^^^ v (j + 8)), fun i => ?_, by repeat (first | exact ex_refl _ | refine ex_appR ?_ _ | refine ex_drew ?_ | refine ex_wx ?_ _)⟩, by simp [intOf]; omega⟩
                  unfold upd
                  by_cases hij : i = j
                  · subst hij; rw [if_pos rfl, if_pos (by omega), UInt32.xor_assoc]
                  · rw [if_neg hij, hG]
                    by_cases h2 : i < j
                    · rw [if_pos h2, if_pos (by omega)]
                    · rw [if_neg h2, if_neg (by omega)]
              · obtain rfl : j = 8 := by omega
                clear hlt hj
                have hR : rowU 8 G = rowU 8 fun i => H i ^^^ (v i ^^^ v (i + 8)) := rowU_congr fun i hi => by rw [hG, if_pos hi]
                simp only [refW, hR]
                clear hR hG
                go_wp2
                exact ret_row (cs := rowU 8 fun i => H i ^^^ (v i ^^^ v (i + 8))) Tryd.results112 Tryd.underlying158 rfl info_a8u rfl (by simp [go_sem]) rfl (post_mk (by rw [eB, hv]) (by repeat (first | exact ex_refl _ | refine ex_appR ?_ _ | refine ex_drew ?_ | refine ex_alloc ?_ _ | refine ex_wx ?_ _)))
end Go.Proofs.YtcdocklbpfdmeaaDoor

/- Sum of the document: what it does. -/
set_option linter.unusedSimpArgs false
set_option linter.unusedVariables false
set_option maxRecDepth 20000
namespace Go.Proofs.YtcdocklbpfdmeaaDoor
open Go.RowKit
theorem refblock_at (H : Nat → UInt32) (b : Nat → UInt8) (x : Int) (m : Nat) (hx : x = m) (hm : m < 18446744073709551616) (last : Bool) (w : World) :
    Calls Tryd.prog 112 #[.agg (rowU 8 H), .agg (rowB 64 b), .int .u64 x, .bool last] w (Post w (.agg (rowU 8 (blockF H b (UInt64.ofNat m) last)))) := by
  have e : x = ln (UInt64.ofNat m) := by rw [hx]; unfold ln; rw [UInt64.toNat_ofNat_of_lt' hm]
  rw [e]
  exact refblock_any H b (UInt64.ofNat m) last w
@[local go_sem] theorem un_xor_formR (x : UInt32) : bits BinOp.xor IntKind.u32 (un x) 16842784 = un (x ^^^ 16842784) := un_xor x 16842784
@[local go_sem] theorem un_tmod256 (x : UInt32) : (un x).tmod 256 = un (x % 256) := by
  unfold un; simp [Int.tmod_eq_emod_of_nonneg]
@[local go_sem] theorem un_tdiv256 (x : UInt32) : (un x).tdiv 256 = un (x / 256) := by
  unfold un; simp [Int.tdiv_eq_ediv_of_nonneg]
@[local go_sem] theorem un_wrap32 (x : UInt32) : IntKind.u32.wrap (un x) = un x := by
  have := un_lt x; rw [IntKind.wrap_u32]; omega
@[local go_sem] theorem un_wrap8 (x : UInt32) : IntKind.u8.wrap (un x) = bn x.toUInt8 := by
  unfold un bn; rw [IntKind.wrap_u8]; simp
theorem byteF_step (h : Nat → UInt32) (i q : Nat) (hq : q < 4) (y : UInt32) (hy : y.toNat = (h i).toNat / 256 ^ q) : (y % 256).toUInt8 = byteF h (4 * i + q) := by
  unfold byteF
  apply UInt8.toNat_inj.1
  rw [show (4 * i + q) / 4 = i by omega, show (4 * i + q) % 4 = q by omega]
  simp only [UInt32.toNat_toUInt8, UInt32.toNat_mod, UInt32.toNat_shiftRight, hy]
  rw [show (UInt32.ofNat (8 * q)).toNat % 32 = 8 * q by simp; omega, Nat.shiftRight_eq_div_pow, Nat.pow_mul]
  simp
theorem over_none {α : Type} (z g : Nat → α) : over z 0 0 g = z := by
  funext j; unfold over; rw [if_neg (by omega)]
theorem over_snoc {α : Type} (z : Nat → α) (j : Nat) (g : Nat → α) : over z 0 (j + 1) g = upd (over z 0 j g) j (g j) := by
  funext i; simp only [over, upd, Nat.sub_zero, Nat.zero_add, Nat.zero_le, true_and]
  by_cases h : i = j
  · subst h; rw [if_pos (by omega), if_pos rfl]
  · rw [if_neg h]
    by_cases h2 : i < j
    · rw [if_pos (by omega), if_pos (by omega)]
    · rw [if_neg (by omega), if_neg (by omega)]
theorem lastK_last {n k T : Nat} (hk : Hid (k ≤ lastK n)) (hT : T = 64 * k) (h1 : T ≤ n) (h2 : n ≤ T + 64) : k = lastK n := by
  have := hk.out; unfold lastK at *; omega
theorem sum_last {f : Nat → UInt8} {n k T j : Nat} {H : Nat → UInt32} (hk : Hid (k ≤ lastK n)) (hT : T = 64 * k) (hH : H = sumK f k) (h1 : T ≤ n) (h2 : n ≤ T + 64) (hj : T + j = n) : sumU f n = blockF H (over (fun _ => 0) 0 j (shiftF f T)) (UInt64.ofNat n) true := by
  unfold sumU tailF
  rw [← lastK_last hk hT h1 h2, hH, hT, show n - 64 * k = j by omega]
set_option maxHeartbeats 2000000 in
theorem refsum_any (a : Option Addr) (n cap : Nat) (f : Nat → UInt8) (w : World) (hn : n ≤ cap) (hcap : cap ≤ maxLen) (hn48 : n ≤ 281474976710656) (hs : SlB w a n f) :
    Calls Tryd.prog 70 #[.slice a n cap] w (Post w (.agg (rowB 32 (sumF f n)))) := by
  unfold maxLen at hcap
  go_enter Tryd.func70, Tryd.ntmps70
  go_wp2_with (go_at_call 111; refine (refstart_any _).mono ?_; rintro e w' ⟨rfl, X, rfl⟩)
  go_loopw [4] (fun i wr => ∃ (k : Nat) (H : Nat → UInt32), i = I (64 * k : Nat) ∧ (k ≤ lastK n ∧ H = sumK f k ∨ k = lastK n + 1 ∧ H = sumU f n) ∧ Ex ((wx (w.alloc (.cells (rowB 32 fun _ => 0) 46)) X).alloc (.cells (rowU 8 H) 158)) wr) (fun i _ => n + 64 - (intOf i).toNat)
  case atStart => exact ⟨0, sumK f 0, rfl, Or.inl ⟨by omega, rfl⟩, ex_refl _⟩
  case round =>
    obtain ⟨k, H, rfl, hk, X0, rfl⟩ := hrel
    have hl : lastK n = (n - 1) / 64 := rfl
    obtain ⟨T, hT⟩ : ∃ T : Nat, T = 64 * k := ⟨_, rfl⟩
    rw [← hT]
    by_cases hlt : k ≤ lastK n
    · have hb : ((T : Int) == 0) = true ∨ ((T : Int) == 0) = false ∧ ((T : Int) < n) := by
        by_cases h0 : k = 0
        · subst h0; subst hT; exact Or.inl rfl
        · right; refine ⟨beq_eq_false_iff_ne.2 (by omega), by omega⟩
      have hTn : T ≤ n := by omega
      have hTm : T % 64 = 0 := by omega
      have hH : H = sumK f k := by rcases hk with h | h; exact h.2; omega
      have HT : Hid (T = 64 * k) := Lib.hid hT
      have HH := Lib.hid hH
      have HL := Lib.hid hl
      have hK := Lib.hid hlt
      clear hk hT hlt hl hH hTm
      rcases hb with hb | ⟨hb, hb2⟩
      all_goals
        by_cases hE : n < T + 64
        · have hE' : ¬ (T : Int) + 64 ≤ n := by omega
          go_wp2
          go_loopw [7] (fun i wr => ∃ j : Nat, T + j ≤ n ∧ i = I (T + j : Nat) ∧ wr = ((wx ((wx (w.alloc (.cells (rowB 32 fun _ => 0) 46)) X).alloc (.cells (rowU 8 H) 158)) X0).alloc (.cells (rowB 64 (over (fun _ => 0) 0 j (shiftF f T))) 160))) (fun i _ => n - (intOf i).toNat)
          case atStart => exact ⟨0, by omega, rfl, by rw [over_none]⟩
          case round =>
            obtain ⟨j, hj, rfl, rfl⟩ := hrel
            by_cases hjl : T + j < n
            · obtain ⟨g, off, rfl, hg, hc⟩ := hs.pos (by omega)
              have h1 := hc (T + j) (by omega)
              clear hc
              have h2 : ((T + j : Nat) : Int) < (n : Nat) := by omega
              have h3 : j < 64 := by omega
              have h4 : ((j : Nat) : Int) < 64 := by omega
              have h5 : ((T + j : Nat) : Int) - (T : Nat) = (j : Nat) := by omega
              go_wp2
              refine ⟨⟨j + 1, by omega, by go_num, ?_⟩, by simp [intOf]; omega⟩
              rw [over_snoc]
              rfl
            · have hj2 : T + j = n := by omega
              have h2 : ¬ ((T + j : Nat) : Int) < (n : Nat) := by omega
              obtain ⟨b, V, hb1, hb2, hb3⟩ : ∃ b V : _, rowB 64 (over (fun _ => 0) 0 j (shiftF f T)) = rowB 64 b ∧ V = blockF H b (UInt64.ofNat n) true ∧ (k + 1 ≤ lastK n ∧ V = sumK f (k + 1) ∨ k + 1 = lastK n + 1 ∧ V = sumU f n) := by
                exact ⟨_, _, rfl, sum_last hK HT.out HH.out hTn (by omega) hj2, Or.inr ⟨by have := lastK_last hK HT.out hTn (by omega); omega, rfl⟩⟩
              have HB : Hid _ := Lib.hid hb2
              have HV : Hid _ := Lib.hid hb3
              rw [hb1, hj2]
              clear hb1 hb2 hb3 hj hj2 hjl
              go_wp2_with (go_at_call 112; refine (refblock_at _ _ _ n (by omega) (by omega) _ _).mono ?_; rintro e w' ⟨rfl, X9, rfl⟩)
              rw [← HB.out]
              refine ⟨⟨k + 1, V, ?_, HV.out, ?_⟩, ?_⟩
              · have := HT.out
                congr 1; omega
              · repeat (first | exact ex_refl _ | refine ex_appR ?_ _ | refine ex_wx ?_ _ | refine ex_drew ?_ | refine ex_alloc ?_ _)
              · simp [intOf]; omega
        · have hE' : (T : Int) + 64 ≤ n := by omega
          go_wp2
          rw [show (T : Int) + 64 = ((T + 64 : Nat) : Int) from rfl]
          obtain ⟨E, hE2⟩ : ∃ E : Nat, E = T + 64 := ⟨_, rfl⟩
          rw [← hE2]
          have HE2 := Lib.hid hE2
          clear hE2
          by_cases hl : n = E
          · subst hl
            have h6 : n ≤ T + 64 := by have := HE2.out; omega
            go_loopw [7] (fun i wr => ∃ j : Nat, T + j ≤ n ∧ i = I (T + j : Nat) ∧ wr = ((wx ((wx (w.alloc (.cells (rowB 32 fun _ => 0) 46)) X).alloc (.cells (rowU 8 H) 158)) X0).alloc (.cells (rowB 64 (over (fun _ => 0) 0 j (shiftF f T))) 160))) (fun i _ => n - (intOf i).toNat)
            case atStart => exact ⟨0, by omega, rfl, by rw [over_none]⟩
            case round =>
              obtain ⟨j, hj, rfl, rfl⟩ := hrel
              by_cases hjl : T + j < n
              · obtain ⟨g, off, rfl, hg, hc⟩ := hs.pos (by omega)
                have h1 := hc (T + j) (by omega)
                clear hc
                have h2 : ((T + j : Nat) : Int) < (n : Nat) := by omega
                have h3 : j < 64 := by omega
                have h4 : ((j : Nat) : Int) < 64 := by omega
                have h5 : ((T + j : Nat) : Int) - (T : Nat) = (j : Nat) := by omega
                go_wp2
                refine ⟨⟨j + 1, by omega, by go_num, ?_⟩, by simp [intOf]; omega⟩
                rw [over_snoc]
                rfl
              · have hj2 : T + j = n := by omega
                have h2 : ¬ ((T + j : Nat) : Int) < (n : Nat) := by omega
                obtain ⟨b, V, hb1, hb2, hb3⟩ : ∃ b V : _, rowB 64 (over (fun _ => 0) 0 j (shiftF f T)) = rowB 64 b ∧ V = blockF H b (UInt64.ofNat n) true ∧ (k + 1 ≤ lastK n ∧ V = sumK f (k + 1) ∨ k + 1 = lastK n + 1 ∧ V = sumU f n) := by
                  exact ⟨_, _, rfl, sum_last hK HT.out HH.out hTn (by omega) hj2, Or.inr ⟨by have := lastK_last hK HT.out hTn (by omega); omega, rfl⟩⟩
                have HB : Hid _ := Lib.hid hb2
                have HV : Hid _ := Lib.hid hb3
                rw [hb1, hj2]
                clear hb1 hb2 hb3 hj hj2 hjl
                go_wp2_with (go_at_call 112; refine (refblock_at _ _ _ n (by omega) (by omega) _ _).mono ?_; rintro e w' ⟨rfl, X9, rfl⟩)
                rw [← HB.out]
                refine ⟨⟨k + 1, V, ?_, HV.out, ?_⟩, ?_⟩
                · have := HT.out
                  congr 1; omega
                · repeat (first | exact ex_refl _ | refine ex_appR ?_ _ | refine ex_wx ?_ _ | refine ex_drew ?_ | refine ex_alloc ?_ _)
                · simp [intOf]; omega
          · have h6 : E = T + 64 := HE2.out
            have h7 : E < n := by omega
            have h8 : E ≤ T + 64 := by omega
            have h9 : T + 64 ≤ E := by omega
            have h10 : ((E : Int) == n) = false := beq_eq_false_iff_ne.2 (by omega)
            clear h6
            go_loopw [7] (fun i wr => ∃ j : Nat, T + j ≤ E ∧ i = I (T + j : Nat) ∧ wr = ((wx ((wx (w.alloc (.cells (rowB 32 fun _ => 0) 46)) X).alloc (.cells (rowU 8 H) 158)) X0).alloc (.cells (rowB 64 (over (fun _ => 0) 0 j (shiftF f T))) 160))) (fun i _ => E - (intOf i).toNat)
            case atStart => exact ⟨0, by omega, rfl, by rw [over_none]⟩
            case round =>
              obtain ⟨j, hj, rfl, rfl⟩ := hrel
              by_cases hjl : T + j < E
              · obtain ⟨g, off, rfl, hg, hc⟩ := hs.pos (by omega)
                have h1 := hc (T + j) (by omega)
                clear hc
                have h2 : ((T + j : Nat) : Int) < (E : Nat) := by omega
                have h3 : j < 64 := by omega
                have h4 : ((j : Nat) : Int) < 64 := by omega
                have h5 : ((T + j : Nat) : Int) - (T : Nat) = (j : Nat) := by omega
                go_wp2
                refine ⟨⟨j + 1, by omega, by go_num, ?_⟩, by simp [intOf]; omega⟩
                rw [over_snoc]
                rfl
              · have hj2 : T + j = E := by omega
                have h2 : ¬ ((T + j : Nat) : Int) < (E : Nat) := by omega
                obtain ⟨b, V, hb1, hb2, hb3⟩ : ∃ b V : _, rowB 64 (over (fun _ => 0) 0 j (shiftF f T)) = rowB 64 b ∧ V = blockF H b (UInt64.ofNat E) false ∧ (k + 1 ≤ lastK n ∧ V = sumK f (k + 1) ∨ k + 1 = lastK n + 1 ∧ V = sumU f n) := by
                  exact ⟨shiftF f T, sumK f (k + 1), rowB_congr (fun i hi => by rw [show j = 64 by omega]; simp [over, hi]), by rw [HE2.out, HT.out, HH.out]; rfl, Or.inl ⟨by unfold lastK; have := HT.out; omega, rfl⟩⟩
                have HB : Hid _ := Lib.hid hb2
                have HV : Hid _ := Lib.hid hb3
                rw [hb1, hj2]
                clear hb1 hb2 hb3 hj hj2 hjl
                go_wp2_with (go_at_call 112; refine (refblock_at _ _ _ E (by omega) (by omega) _ _).mono ?_; rintro e w' ⟨rfl, X9, rfl⟩)
                rw [← HB.out]
                refine ⟨⟨k + 1, V, ?_, HV.out, ?_⟩, ?_⟩
                · have := HT.out
                  congr 1; omega
                · repeat (first | exact ex_refl _ | refine ex_appR ?_ _ | refine ex_wx ?_ _ | refine ex_drew ?_ | refine ex_alloc ?_ _)
                · simp [intOf]; omega
    · have hH : H = sumU f n := by rcases hk with h | h; omega; exact h.2
      have hk2 : k = lastK n + 1 := by omega
      have hb : ((T : Int) == 0) = false := beq_eq_false_iff_ne.2 (by omega)
      have hb2 : ¬ ((T : Int) < n) := by omega
      have eF : sumF f n = byteF (sumU f n) := rfl
      rw [hH]
      generalize sumU f n = S at eF ⊢
      have EF : Hid (sumF f n = byteF S) := Lib.hid eF
      clear hk hT hlt hl hk2 hH eF H k
      go_wp2
      go_loopw [55] (fun i wr => ∃ (k : Nat) (G : Nat → UInt8), k ≤ 8 ∧ i = I k ∧ (∀ i, i < 4 * k → G i = byteF S i) ∧ Ex (((wx ((wx (w.alloc (.cells (rowB 32 fun _ => 0) 46)) X).alloc (.cells (rowU 8 S) 158)) X0)).alloc (.cells (rowB 32 G) 46)) wr) (fun i _ => 8 - (intOf i).toNat)
      case atStart => exact ⟨0, fun _ => 0, by omega, rfl, fun i hi => by omega, ex_refl _⟩
      case round =>
        obtain ⟨k, G, hk, rfl, hG, X1, rfl⟩ := hrel
        by_cases hlt : k < 8
        · go_wp2
          go_loopw [10, 61] (fun x i wr => ∃ (q : Nat) (G : Nat → UInt8) (y : UInt32), q ≤ 4 ∧ i = I q ∧ x = U y ∧ y.toNat = (S k).toNat / 256 ^ q ∧ (∀ i, i < 4 * k + q → G i = byteF S i) ∧ wr = wx ((wx ((wx (w.alloc (.cells (rowB 32 fun _ => 0) 46)) X).alloc (.cells (rowU 8 S) 158)) X0).alloc (.cells (rowB 32 G) 46)) X1) (fun _ i _ => 4 - (intOf i).toNat)
          case atStart => exact ⟨0, G, S k, by omega, rfl, rfl, by simp, hG, rfl⟩
          case round =>
            obtain ⟨q, G, y, hq, rfl, rfl, hy, hG, rfl⟩ := hrel
            by_cases hlt : q < 4
            · have hby := byteF_step S k q hlt y hy
              have i1 : 4 * (k : Int) + q < 32 := by omega
              have HY : Hid (y.toNat = (S k).toNat / 256 ^ q) := Lib.hid hy
              have HBY : Hid ((y % 256).toUInt8 = byteF S (4 * k + q)) := Lib.hid hby
              clear hy hby
              go_wp2
              refine ⟨⟨q + 1, upd G (4 * k + q) (byteF S (4 * k + q)), y / 256, by omega, by go_num, rfl, ?_, fun i hi => ?_, ?_⟩, by simp [intOf]; omega⟩
              · rw [UInt32.toNat_div, HY.out, Nat.pow_succ, ← Nat.div_div_eq_div_mul]; rfl
              · unfold upd
                by_cases h3 : i = 4 * k + q
                · rw [if_pos h3, h3]
                · rw [if_neg h3]; exact hG i (by omega)
              · rw [HBY.out]
            · obtain rfl : q = 4 := by omega
              clear hlt hq
              go_wp2
              refine ⟨⟨k + 1, G, by omega, by go_num, fun i hi => hG i (by omega), ?_⟩, by simp [intOf]; omega⟩
              repeat (first | exact ex_refl _ | refine ex_appR ?_ _ | refine ex_wx ?_ _ | refine ex_drew ?_ | refine ex_alloc ?_ _)
        · obtain rfl : k = 8 := by omega
          clear hlt hk
          have hR : rowB 32 G = rowB 32 (byteF S) := rowB_congr fun i hi => hG i (by omega)
          simp only [hR]
          clear hR hG
          go_wp2
          exact ret_row (cs := rowB 32 (byteF S)) Tryd.results70 Tryd.underlying46 rfl info_id rfl (by simp [go_sem]; repeat (first | rw [if_pos (by omega)] | rw [if_neg (by omega)])) rfl (post_mk (by rw [EF.out]) (by repeat (first | exact ex_refl _ | refine ex_appR ?_ _ | refine ex_drew ?_ | refine ex_alloc ?_ _ | refine ex_wx ?_ _)))
end Go.Proofs.YtcdocklbpfdmeaaDoor

/- Bytes as lists, digests: slices of both; Sum of both texts over lists. -/
set_option linter.unusedSimpArgs false
set_option linter.unusedVariables false
set_option maxRecDepth 20000
namespace Go.Proofs.YtcdocklbpfdmeaaDoor
open Go.RowKit
theorem rowB_list (l : List UInt8) : (rowB l.length (gF l)).toList = Lib.byteCells l := by
  apply List.ext_getElem?
  intro i
  rw [Array.getElem?_toList, rowB_get]
  unfold Lib.byteCells gF
  rw [List.getElem?_map, List.getD_eq_getElem?_getD]
  by_cases h : i < l.length
  · rw [if_pos h, List.getElem?_eq_getElem h]; rfl
  · rw [if_neg h, List.getElem?_eq_none (by omega)]; rfl
theorem rowB_bytes (d : Dg) : (rowB 32 (dF d)).toList = Lib.byteCells (bytesD d) := by
  rw [← rowB_list, bytesD_len]
  exact congrArg Array.toList <| rowB_congr fun i hi => by
    unfold gF bytesD; rw [List.getD_eq_getElem?_getD, List.getElem?_map, List.getElem?_range hi]; rfl
theorem sumD_row (l : List UInt8) : rowB 32 (sumF (gF l) l.length) = rowB 32 (dF (sumD l)) := rowB_congr fun i hi => (dF_ofF _ i hi).symm
/-- A slice that reads as a list of bytes. -/
def SlL (w : World) (a : Option Addr) (l : List UInt8) : Prop := SlB w a l.length (gF l)
theorem SlL.ex {w w' : World} {a : Option Addr} {l : List UInt8} (h : SlL w a l) (k : Ex w w') : SlL w' a l := SlB.ex h k
structure SlT (w : World) (v : Value) (l : List UInt8) : Prop where
  out : ∃ a c, v = .slice a l.length c ∧ l.length ≤ c ∧ c ≤ maxLen ∧ (a = none → c = 0) ∧ SlL w a l
theorem SlT.ex {w w' : World} {v : Value} {l : List UInt8} (h : SlT w v l) (k : Ex w w') : SlT w' v l := by
  obtain ⟨a, c, h1, h2, h3, h4, h5⟩ := h.out
  exact ⟨a, c, h1, h2, h3, h4, h5.ex k⟩
/-- The same, not nil. -/
structure SlS (w : World) (v : Value) (l : List UInt8) : Prop where
  out : ∃ ad c, v = .slice (some ad) l.length c ∧ l.length ≤ c ∧ c ≤ maxLen ∧ SlL w (some ad) l
theorem SlS.ex {w w' : World} {v : Value} {l : List UInt8} (h : SlS w v l) (k : Ex w w') : SlS w' v l := by
  obtain ⟨a, c, h1, h2, h3, h5⟩ := h.out
  exact ⟨a, c, h1, h2, h3, h5.ex k⟩
theorem SlS.slt {w : World} {v : Value} {l : List UInt8} (h : SlS w v l) : SlT w v l := by
  obtain ⟨a, c, h1, h2, h3, h5⟩ := h.out
  exact ⟨some a, c, h1, h2, h3, (fun h => by cases h), h5⟩
theorem owns_slt {w : World} {Z : Nat} {v : Value} {n : Nat} {l : List UInt8} (h : w.ownsRow Z 5 1 v n (Lib.byteCells l)) : SlT w v l := by
  have hn : l.length = n := by have := h.1; simpa [Lib.byteCells] using this
  subst hn
  rw [← rowB_list] at h
  obtain ⟨a, c, h1, h2, h3, h4, h5⟩ := owns_slb h
  exact ⟨a, c, h1, h2, h3, h4, h5⟩
theorem sll_news {w w' : World} {ad : Addr} {l : List UInt8} (h : SlL w (some ad) l) (k : Ex w w') : ∀ (j : Nat) (u : Value), (Lib.byteCells l)[j]? = some u → w'.cell? (ad.add j) = some u := by
  rcases h.out with h0 | ⟨g, off, h1, hg, hc⟩
  · have := List.eq_nil_of_length_eq_zero h0
    subst this; intro j u hu; simp [Lib.byteCells] at hu
  · cases h1
    rw [← rowB_list]
    exact slb_news hg hc k
theorem bytes_one (l : List UInt8) : ∀ u ∈ Lib.byteCells l, u.oneCell' = true := by
  intro u hu
  simp only [Lib.byteCells, List.mem_map] at hu
  obtain ⟨b, _, rfl⟩ := hu; rfl
theorem bytes_len (l : List UInt8) : (Lib.byteCells l).length = l.length := by simp [Lib.byteCells]
theorem bytes_app (l r : List UInt8) : Lib.byteCells l ++ Lib.byteCells r = Lib.byteCells (l ++ r) := by simp [Lib.byteCells]
/-- Cells that lie in a new block. -/
theorem sll_block {w : World} {g : Nat} {l : List UInt8} {t : TypeId} {fr : Nat × Nat} {cs : Array Value} (hb : w.heap[g]? = some (.cells cs t fr)) (hc : ∀ j, j < l.length → cs[j]? = some (B (gF l j))) : SlL w (some ⟨g, 0, none⟩) l := by
  refine SlB.mk' (Array.getElem?_eq_some_iff.1 hb).1 fun j hj => ?_
  rw [Nat.zero_add, cell_of_row _ g j _ _ _ hb, hc j hj]
theorem sls_dg {w w' : World} {g : Nat} (d : Dg) {t : TypeId} (k : Ex (w.alloc (.cells (rowB 32 (dF d)) t)) w') (hg : g = w.heap.size) : SlS w' (.slice (some ⟨g, 0, none⟩) 32 32) (bytesD d) := by
  subst hg
  refine ⟨_, 32, by rw [bytesD_len], by rw [bytesD_len]; omega, by decide, SlL.ex (sll_block (heap_alloc_new _ _) fun j hj => ?_) k⟩
  rw [bytesD_len] at hj
  rw [rowB_get, if_pos hj]
  unfold gF bytesD; rw [List.getD_eq_getElem?_getD, List.getElem?_map, List.getElem?_range hj]; rfl
theorem sls_one {w w' : World} {g : Nat} (b : UInt8) {t : TypeId} {z : Int} (k : Ex (w.alloc (.cells #[.int .u8 z] t)) w') (hg : g = w.heap.size) (hz : z = bn b) : SlS w' (.slice (some ⟨g, 0, none⟩) 1 1) [b] := by
  subst hg hz
  refine ⟨_, 1, rfl, by simp, by decide, SlL.ex (sll_block (heap_alloc_new _ _) fun j hj => ?_) k⟩
  have : j = 0 := by simpa using hj
  subst this; rfl
theorem sum_slt {w w' : World} (G : Glob w) (k : Ex w w') {v : Value} {l : List UInt8} (h : SlT w' v l) (h48 : l.length ≤ 281474976710656) :
    Calls Tryd.prog 84 #[v] w' (Post w' (.agg (rowB 32 (dF (sumD l))))) := by
  obtain ⟨a, c, rfl, h2, h3, h4, h5⟩ := h.out
  have := sum_glob G k a l.length c (gF l) h2 h3 h48 h5
  rwa [sumD_row] at this
theorem refsum_slt {w' : World} {v : Value} {l : List UInt8} (h : SlT w' v l) (h48 : l.length ≤ 281474976710656) :
    Calls Tryd.prog 70 #[v] w' (Post w' (.agg (rowB 32 (dF (sumD l))))) := by
  obtain ⟨a, c, rfl, h2, h3, h4, h5⟩ := h.out
  have := refsum_any a l.length c (gF l) w' h2 h3 h48 h5
  rwa [sumD_row] at this
theorem slt_nil (w : World) : SlT w (.slice none 0 0) [] := ⟨none, 0, rfl, by simp, by decide, fun _ => rfl, SlB.zero _ _ _⟩
/-- A list of bytes of the call's own. -/
def PostT (W : World) (l : List UInt8) (e : Ending) (w' : World) : Prop := ∃ v, e = .returned v ∧ SlT w' v l ∧ ∃ X, w' = wx W X
/-- Digests that are held against one another. -/
theorem eqD (d d' : Dg) : eqF (dF d) (dF d') 32 = decide (d = d') := by
  rw [Bool.eq_iff_iff, eqF_true, decide_eq_true_eq]
  exact ⟨dF_inj, fun h i _ => by rw [h]⟩
/-- A slice of digests. -/
structure SlD (w : World) (a : Option Addr) (l : List Dg) : Prop where
  out : l = [] ∨ ∃ g off, a = some ⟨g, off, none⟩ ∧ g < w.heap.size ∧ ∀ i d, l[i]? = some d → cellsN w g (off + i * 32) 32 = some (rowB 32 (dF d))
theorem SlD.ex {w w' : World} {a : Option Addr} {l : List Dg} (h : SlD w a l) (k : Ex w w') : SlD w' a l := by
  obtain ⟨X, rfl⟩ := k
  rcases h.out with h | ⟨g, off, h1, h2, h3⟩
  · exact ⟨Or.inl h⟩
  · refine ⟨Or.inr ⟨g, off, h1, by rw [wx_size]; omega, fun i d hd => ?_⟩⟩
    rw [cellsN_congr fun j _ => wx_cell w X _ h2]; exact h3 i d hd
theorem SlD.pos {w : World} {a : Option Addr} {l : List Dg} (h : SlD w a l) (hn : 0 < l.length) : ∃ g off, a = some ⟨g, off, none⟩ ∧ g < w.heap.size ∧ ∀ i d, l[i]? = some d → cellsN w g (off + i * 32) 32 = some (rowB 32 (dF d)) := by
  rcases h.out with rfl | h
  · simp at hn
  · exact h
theorem SlD.nil (w : World) (a : Option Addr) : SlD w a [] := ⟨Or.inl rfl⟩
theorem SlD.take {w : World} {a : Option Addr} {l : List Dg} (h : SlD w a l) (k : Nat) : SlD w a (l.take k) := by
  rcases h.out with rfl | ⟨g, off, h1, h2, h3⟩
  · exact ⟨Or.inl (by simp)⟩
  · refine ⟨Or.inr ⟨g, off, h1, h2, fun i d hd => ?_⟩⟩
    rw [List.getElem?_take] at hd
    split at hd
    · exact h3 i d hd
    · cases hd
theorem SlD.drop {w : World} {g off : Nat} {l : List Dg} (h : SlD w (some ⟨g, off, none⟩) l) (k : Nat) : SlD w (some ⟨g, off + k * 32, none⟩) (l.drop k) := by
  rcases h.out with rfl | ⟨g', off', h1, h2, h3⟩
  · exact ⟨Or.inl (by simp)⟩
  · cases h1
    refine ⟨Or.inr ⟨g, _, rfl, h2, fun i d hd => ?_⟩⟩
    rw [List.getElem?_drop] at hd
    rw [Nat.add_assoc, ← Nat.add_mul]
    exact h3 _ d hd
theorem SlS.news {w : World} {ad : Addr} {n c : Nat} {l : List UInt8} (h : SlS w (.slice (some ad) n c) l) : ∀ (j : Nat) (u : Value), (Lib.byteCells l)[j]? = some u → w.cell? (ad.add j) = some u := by
  obtain ⟨ad', c', h1, _, _, h5⟩ := h.out
  cases h1
  exact sll_news h5 (ex_refl _)
/-- append of bytes to bytes of the call's own. -/
theorem wpAppB {ops : Array Oper} {rest : List Oper} {o : Oper} {a : Act} {w : World} {Q : Exit → Act → World → Prop} (s x : Operand) (hgd : o.guard = none)
    (ho : o.op = .call { callee := .builtin .append, args := #[s, x], argTypes := #[35, 35] })
    {Z : Nat} {v vx : Value} {n : Nat} {l r : List UInt8} (hown : w.ownsRow Z 5 1 v n (Lib.byteCells l)) (hs : a.eval s = v) (hx : a.eval x = vx) (hr : SlS w vx r) (hlen : n + r.length ≤ 140737488355328) (hZ : Z ≤ w.heap.size)
    (h : ∀ v' w', w'.ownsRow Z 5 1 v' (n + r.length) (Lib.byteCells (l ++ r)) → Below Z w w' → wpList Tryd.prog ops Q rest (a.put o.dst v') w') : wpList Tryd.prog ops Q (o :: rest) a w := by
  obtain ⟨ad, c, rfl, h1, h2, h3⟩ := hr.out
  refine wpApp appu8 s x hgd ho hown hs ad r.length c (Lib.byteCells r) hx (by rw [bytes_len, Nat.mul_one]) (sll_news h3 (ex_refl _)) (bytes_one _) (by unfold maxLen; omega) (by omega) hZ fun v' w' k1 k2 => ?_
  rw [bytes_app] at k1
  exact h v' w' k1 k2
theorem SlD.at {w : World} {g off : Nat} {l : List Dg} (h : SlD w (some ⟨g, off, none⟩) l) {i : Nat} {d : Dg} (hd : l[i]? = some d) : cellsN w g (off + i * 32) 32 = some (rowB 32 (dF d)) ∧ g < w.heap.size := by
  rcases h.out with rfl | ⟨g', off', h1, h2, h3⟩
  · simp at hd
  · cases h1; exact ⟨h3 i d hd, h2⟩
end Go.Proofs.YtcdocklbpfdmeaaDoor
