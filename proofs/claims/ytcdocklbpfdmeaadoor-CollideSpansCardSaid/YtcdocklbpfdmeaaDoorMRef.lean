import Derived.Test.YtcdocklbpfdmeaaDoorMLittle
import Derived.Test.YtcdocklbpfdmeaaDoorMWords

/- The document's Block: what it does. -/
set_option linter.unusedSimpArgs false
set_option linter.unusedVariables false
set_option maxRecDepth 20000
namespace Go.Proofs.YtcdocklbpfdmeaaDoor
open Go.RowKit
theorem refmix_rowed (a b c d x y : UInt32) (w : World) :
    Calls Tryd.prog 151 #[.agg #[U a, U b, U c, U d], U x, U y] w (Post w (.agg (rowU 4 (mixL a b c d x y)))) := refmix_any a b c d x y w

set_option maxHeartbeats 1000000 in
theorem mixed_any (v : Nat → UInt32) (p : Nat → Nat) (hpl : ∀ j, p j < 16) (x y : UInt32) (w : World) :
    Calls Tryd.prog 140 #[.agg (rowU 16 v), .string (strD 4 p), U x, U y] w (Post w (.agg (rowU 16 (step v p x y)))) := by
  have q0 : ((p 0 : Nat) : Int) < 16 := by have := hpl 0; omega
  have q1 : ((p 1 : Nat) : Int) < 16 := by have := hpl 1; omega
  have q2 : ((p 2 : Nat) : Int) < 16 := by have := hpl 2; omega
  have q3 : ((p 3 : Nat) : Int) < 16 := by have := hpl 3; omega
  go_enter Tryd.func140, Tryd.ntmps140
  go_wp2
  refine wp_region_late [(0, true), (1, true), (5, true), (6, true), (10, true), (11, true), (15, true), (16, true), (21, true), (22, true), (2, false), (3, true), (4, true), (7, false), (8, true), (9, true), (12, false), (13, true), (14, true), (17, false), (18, true), (19, true), (20, true), (23, false)] 25 [(24, some 9, (.cells (rowU 4 fun _ => 0) 197))] (by kernel_rfl) (by kernel_rfl) rfl (by intro x hx ρ W; simp only [List.mem_cons, List.not_mem_nil, or_false] at hx; repeat (first | subst hx | (rcases hx with rfl | hx)); all_goals (first | (simp [nth, go_sem, ptr]; done) | (simp [nth, go_sem, ptr]; rfl))) (fun _ _ d _ _ h => by cases d <;> exact h) (fun _ _ d _ _ h => by cases d <;> exact h) ?_
  simp only [List.map_cons, List.map_nil, nth, List.drop_succ_cons, List.drop_zero, lateR]
  repeat (first | (refine wpMix_look ?_; go_big_quiet_step (fail); refine wpQuiet_nil ?_) | (refine wpMix_eff rfl (fun X1 => ?_); go_wp2_with (first | (go_at_call 141; refine (digit_place _ (hpl _) _).mono ?_; rintro e w' ⟨rfl, rfl⟩) | (go_at_call 151; refine (refmix_rowed _ _ _ _ _ _ _).mono ?_; rintro e w' ⟨rfl, X, rfl⟩)); refine mixQ_mk (by first | exact ex_refl _ | exact ⟨_, rfl⟩ | exact ex_app _ _ _ | (simp only [wx_wx, wx_drew]; first | exact ex_refl _ | exact ex_app _ _ _ | exact ⟨_, rfl⟩) | (repeat (first | exact ex_refl _ | refine ex_drew ?_ | refine ex_alloc ?_ _ | refine ex_wx ?_ _))) ?_))
  refine wpMix_nil (fun X2 => ?_)
  intro q hq
  simp only [wx_wx, wx_heap_more, ptr] at hq ⊢
  generalize (((((_ : More).app _).app _).app _).app _).app _ = Y at hq ⊢
  go_wp2
  generalize hl : mixL (v (p 0)) (v (p 1)) (v (p 2)) (v (p 3)) x y = l
  obtain ⟨Z, hZ⟩ : ∃ Z, Z = Y.sets q 0 (rowU 4 l).toList := ⟨_, rfl⟩
  have hz : Z.at q = some (.cells (rowU 4 l) 197) := by subst hZ; simp [go_sem, hq]
  have hzl : q < Z.blocks.length := (List.getElem?_eq_some_iff.1 hz).1
  rw [← hZ]
  clear hZ hq
  have eu : stepK v p l 4 = step v p x y := by rw [← hl]; rfl
  clear hl
  go_loopw [35] (fun i wr => ∃ j : Nat, j ≤ 4 ∧ i = .int .i64 j ∧ Ex (wx ((w.alloc (.cells (rowU 16 (stepK v p l j)) 184)).alloc (.cells (rowU 16 fun _ => 0) 184)) Z) wr) (fun i _ => 4 - (intOf i).toNat)
  case atStart => exact ⟨0, by omega, rfl, ex_refl _⟩
  case round =>
    obtain ⟨j, hj, rfl, X9, rfl⟩ := hrel
    by_cases hlt : j < 4
    · have hpj : ((p j : Nat) : Int) < 16 := by have := hpl j; omega
      have hpj' : ((p j : Nat)) < 16 := hpl j
      go_wp2
      refine wp_region_mix [(0, true), (1, true), (2, true), (4, true), (5, true), (6, true), (3, false), (7, true)] 8 (by kernel_rfl) (by kernel_rfl) (fun _ _ d _ _ h => by cases d <;> exact h) ?_
      simp only [List.map_cons, List.map_nil, nth, List.drop_succ_cons, List.drop_zero]
      repeat (first | (refine wpMix_look ?_; go_big_quiet_step (fail); refine wpQuiet_nil ?_) | (refine wpMix_eff rfl (fun X1 => ?_); go_wp2_with (go_at_call 141; refine (digit_place _ (hpl _) _).mono ?_; rintro e w' ⟨rfl, rfl⟩); refine mixQ_mk (by first | exact ex_refl _ | exact ⟨_, rfl⟩ | exact ex_app _ _ _ | (simp only [wx_wx, wx_drew]; first | exact ex_refl _ | exact ex_app _ _ _ | exact ⟨_, rfl⟩) | (repeat (first | exact ex_refl _ | refine ex_drew ?_ | refine ex_alloc ?_ _ | refine ex_wx ?_ _))) ?_))
      refine wpMix_nil (fun X2 => ?_)
      go_wp2
      refine ⟨⟨j + 1, by omega, by go_num, ?_⟩, by simp [intOf]; omega⟩
      repeat (first | exact ex_refl _ | refine ex_appR ?_ _)
    · obtain rfl : j = 4 := by omega
      clear hlt hj
      rw [eu]
      go_wp2
      exact ret_row (cs := rowU 16 (step v p x y)) Tryd.results140 Tryd.underlying184 rfl info_a16u rfl (by simp [go_sem]) rfl (post_mk rfl (by repeat (first | exact ex_refl _ | refine ex_drew ?_ | refine ex_alloc ?_ _ | refine ex_wx ?_ _)))

attribute [local go_sem] un_mul8 un_mul16 un_mul24
/-- Four bytes, as a sum. -/
theorem or_shl (a b k : Nat) (h : a < 2 ^ k) : a ||| b <<< k = a + b * 2 ^ k := by
  rw [Nat.or_comm, ← Nat.shiftLeft_add_eq_or_of_lt h, Nat.shiftLeft_eq, Nat.add_comm]
theorem leK_nat (f : Nat → UInt8) (k : Nat) (hk : k < 4) : (leK f (k + 1)).toNat = (leK f k).toNat ||| (f k).toNat <<< (8 * k) := by
  have e := (f k).toNat_lt
  have hs : (f k).toNat <<< (8 * k) < 4294967296 := by
    rw [Nat.shiftLeft_eq]
    have h1 : (2:Nat) ^ (8 * k) ≤ 2 ^ 24 := Nat.pow_le_pow_right (by omega) (by omega)
    calc (f k).toNat * 2 ^ (8 * k) ≤ 255 * 2 ^ 24 := Nat.mul_le_mul (by omega) h1
      _ < 4294967296 := by decide
  simp only [leK, UInt32.toNat_or, UInt32.toNat_shiftLeft, UInt8.toNat_toUInt32]
  rw [show (UInt32.ofNat (8 * k)).toNat % 32 = 8 * k by simp; omega, Nat.mod_eq_of_lt hs]
theorem leK_sum (f : Nat → UInt8) : (f 0).toUInt32 + (f 1).toUInt32 <<< 8 + (f 2).toUInt32 <<< 16 + (f 3).toUInt32 <<< 24 = leK f 4 := by
  have e0 := (f 0).toNat_lt; have e1 := (f 1).toNat_lt; have e2 := (f 2).toNat_lt; have e3 := (f 3).toNat_lt
  apply UInt32.toNat_inj.1
  have h0 : (leK f 0).toNat = 0 := rfl
  have h1 : (leK f 1).toNat = (f 0).toNat := by rw [leK_nat f 0 (by omega), h0]; simp
  have h2 : (leK f 2).toNat = (f 0).toNat + (f 1).toNat * 2 ^ 8 := by
    rw [leK_nat f 1 (by omega), h1, or_shl _ _ _ (by omega)]
  have h3 : (leK f 3).toNat = (f 0).toNat + (f 1).toNat * 2 ^ 8 + (f 2).toNat * 2 ^ 16 := by
    rw [leK_nat f 2 (by omega), h2, or_shl _ _ _ (by omega)]
  have h4 : (leK f 4).toNat = (f 0).toNat + (f 1).toNat * 2 ^ 8 + (f 2).toNat * 2 ^ 16 + (f 3).toNat * 2 ^ 24 := by
    rw [leK_nat f 3 (by omega), h3, or_shl _ _ _ (by omega)]
  rw [h4]
  simp [UInt32.toNat_add, UInt32.toNat_shiftLeft, Nat.shiftLeft_eq]
  omega
abbrev refW (w : World) (h : Nat → UInt32) (b : Nat → UInt8) (v m : Nat → UInt32) : World :=
  (((((w.alloc (.cells (rowU 8 h) 158)).alloc (.cells (rowB 64 b) 160)).alloc (.cells (rowU 8 fun _ => 0) 158)).alloc (.cells (rowU 16 m) 184)).alloc (.cells (rowU 16 v) 184))
set_option maxHeartbeats 2000000 in
theorem refblock_any (H : Nat → UInt32) (b : Nat → UInt8) (t : UInt64) (last : Bool) (w : World) :
    Calls Tryd.prog 112 #[.agg (rowU 8 H), .agg (rowB 64 b), L t, .bool last] w (Post w (.agg (rowU 8 (blockF H b t last)))) := by
  go_enter Tryd.func112, Tryd.ntmps112
  go_wp2_with (go_at_call 111; refine (refstart_any _).mono ?_; rintro e w' ⟨rfl, X, rfl⟩)
  go_loopw [19] (fun i wr => ∃ k : Nat, k ≤ 16 ∧ i = .int .i64 k ∧ ∃ m v : Nat → UInt32, (∀ j, j < k → m j = leK (shiftF b (4 * j)) 4) ∧ (∀ j, v j = if j < min k 8 then H j else if 8 ≤ j ∧ j < 8 + min k 8 then startF (j - 8) else 0) ∧ Ex ((wx (refW w H b v m) X).alloc (.cells (rowU 8 startF) 158)) wr) (fun i _ => 16 - (intOf i).toNat)
  case atStart => exact ⟨0, by omega, rfl, _, _, fun j hj => by omega, fun j => by rw [if_neg (by omega), if_neg (by omega)], ex_refl _⟩
  case round =>
    obtain ⟨k, hk, rfl, m, v, hm, hv, X9, rfl⟩ := hrel
    by_cases hlt : k < 16
    · have i0 : 0 ≤ 4 * (k : Int) := by omega
      have i1 : 0 ≤ 4 * (k : Int) + 1 := by omega
      have i2 : 0 ≤ 4 * (k : Int) + 2 := by omega
      have i3 : 0 ≤ 4 * (k : Int) + 3 := by omega
      have j0 : 4 * (k : Int) < 64 := by omega
      have j1 : 4 * (k : Int) + 1 < 64 := by omega
      have j2 : 4 * (k : Int) + 2 < 64 := by omega
      have j3 : 4 * (k : Int) + 3 < 64 := by omega
      have l0 : 4 * k < 64 := by omega
      have l1 : 4 * k + 1 < 64 := by omega
      have l2 : 4 * k + 2 < 64 := by omega
      have l3 : 4 * k + 3 < 64 := by omega
      go_wp2
      refine wp_region_mix [(0, true), (1, true), (2, true), (3, true), (4, true), (5, true), (6, true), (7, true), (8, true), (9, true), (10, true), (11, true), (12, true), (13, true), (14, true), (15, true), (16, true), (17, true), (18, true), (19, true), (20, true), (21, true), (22, true), (23, true), (24, true), (25, true), (26, true), (27, true), (28, true), (29, true), (30, true)] 31 (by kernel_rfl) (by kernel_rfl) (fun _ _ d _ _ h => by cases d <;> exact h) ?_
      simp only [List.map_cons, List.map_nil, nth, List.drop_succ_cons, List.drop_zero]
      repeat (first | (refine wpMix_look ?_; go_big_quiet_step (fail); refine wpQuiet_nil ?_) | (refine wpMix_eff rfl (fun X1 => ?_); go_wp2_with (fail); refine mixQ_mk (by first | exact ex_refl _ | exact ⟨_, rfl⟩ | exact ex_app _ _ _ | (simp only [wx_wx, wx_drew]; first | exact ex_refl _ | exact ex_app _ _ _ | exact ⟨_, rfl⟩) | (repeat (first | exact ex_refl _ | refine ex_drew ?_ | refine ex_alloc ?_ _ | refine ex_wx ?_ _))) ?_))
      refine wpMix_nil (fun X2 => ?_)
      go_wp2
      · go_region
        go_wp2
        rename_i hk8
        refine ⟨⟨k + 1, by omega, by go_num, upd m k ((b (4 * k)).toUInt32 + (b (4 * k + 1)).toUInt32 <<< 8 + (b (4 * k + 2)).toUInt32 <<< 16 + (b (4 * k + 3)).toUInt32 <<< 24), upd (upd v k (H k)) (k + 8) (startF k), fun j hj => ?_, fun j => ?_, ?_⟩, by simp [intOf]; omega⟩
        rotate_left 2
        · repeat (first | exact ex_refl _ | refine ex_appR ?_ _ | refine ex_wx ?_ _ | refine ex_drew ?_)
        · unfold upd
          by_cases hjk : j = k
          · subst hjk; rw [if_pos rfl]; exact leK_sum (shiftF b (4 * j))
          · rw [if_neg hjk]; exact hm j (by omega)
        · have hk9 : k < 8 := by omega
          unfold upd
          by_cases h1 : j = k + 8
          · subst h1; rw [if_pos rfl, if_neg (by omega), if_pos (by omega), Nat.add_sub_cancel]
          · rw [if_neg h1]
            by_cases h2 : j = k
            · subst h2; rw [if_pos rfl, if_pos (by omega)]
            · rw [if_neg h2, hv]
              by_cases h3 : j < min k 8
              · rw [if_pos h3, if_pos (by omega)]
              · rw [if_neg h3, if_neg (by omega : ¬ j < min (k + 1) 8)]
                by_cases h4 : 8 ≤ j ∧ j < 8 + min k 8
                · rw [if_pos h4, if_pos (by omega)]
                · rw [if_neg h4, if_neg (by omega)]
      · refine ⟨⟨k + 1, by omega, by go_num, upd m k ((b (4 * k)).toUInt32 + (b (4 * k + 1)).toUInt32 <<< 8 + (b (4 * k + 2)).toUInt32 <<< 16 + (b (4 * k + 3)).toUInt32 <<< 24), v, fun j hj => ?_, fun j => ?_, ?_⟩, by simp [intOf]; omega⟩
        rotate_left 2
        · repeat (first | exact ex_refl _ | refine ex_appR ?_ _ | refine ex_wx ?_ _)
        · unfold upd
          by_cases hjk : j = k
          · subst hjk; rw [if_pos rfl]; exact leK_sum (shiftF b (4 * j))
          · rw [if_neg hjk]; exact hm j (by omega)
        · rw [hv, show min (k + 1) 8 = min k 8 by omega]
    · obtain rfl : k = 16 := by omega
      clear hlt hk
      have hmw : rowU 16 m = rowU 16 (wordsF b) := rowU_congr hm
      have hvw : rowU 16 v = rowU 16 (over (over (fun _ => 0) 0 8 H) 8 8 startF) := rowU_congr fun j hj => by
        rw [hv]; unfold over
        by_cases h1 : j < 8
        · rw [if_pos (by omega), if_neg (by omega), if_pos (by omega), Nat.sub_zero]
        · rw [if_neg (by omega), if_pos (by omega), if_pos (by omega)]
      simp only [refW, hmw, hvw, Int.cast_ofNat_Int]
      clear hm hmw hvw hv m v
      have eB : blockF H b t last = fun i => H i ^^^ (rndN (wordsF b) (v0F H t last) 10 i ^^^ rndN (wordsF b) (v0F H t last) 10 (i + 8)) := rfl
      obtain ⟨v0, hv0⟩ : ∃ v0, v0F H t last = v0 := ⟨_, rfl⟩
      rw [hv0] at eB
      cases last
      all_goals
        go_wp2
        go_loopw [86] (fun i wr => ∃ n : Nat, n ≤ 10 ∧ i = .int .i64 n ∧ Ex ((wx (refW w H b (rndN (wordsF b) v0 n) (wordsF b)) X).alloc (.cells (rowU 8 startF) 158)) wr) (fun i _ => 10 - (intOf i).toNat)
        case atStart => exact ⟨0, by omega, rfl, by subst hv0; repeat (first | exact ex_refl _ | refine ex_appR ?_ _ | refine ex_wx ?_ _ | refine ex_drew ?_)⟩
        case round =>
          obtain ⟨n, hn, rfl, X0, rfl⟩ := hrel
          by_cases hlt : n < 10
          · generalize hv : rndN (wordsF b) v0 n = v
            obtain ⟨s, hs⟩ : ∃ s : Nat → Nat, s = fun j => ordersN.getD (n * 16 + j) 0 := ⟨_, rfl⟩
            have hO : ∀ w, Calls Tryd.prog 139 #[I n] w fun e w' => e = .returned (.string (strD 16 s)) ∧ w = w' := by
              intro w; subst hs; exact order_any n hlt w
            have hsl : ∀ j, s j < 16 := by subst hs; exact fun j => ord_lt _
            have en : rndI (wordsF b) s v 8 = rndN (wordsF b) v0 (n + 1) := by subst hs; subst hv; rfl
            clear hs hv hv0
            go_wp2_with (go_at_call 139; refine (hO _).mono ?_; rintro e w' ⟨rfl, rfl⟩)
            have hlt' : ((n : Nat) : Int) < 10 := by omega
            try simp only [hlt', decide_true]
            go_loopw [91] (fun i wr => ∃ k : Nat, k ≤ 8 ∧ i = .int .i64 k ∧ Ex ((wx (refW w H b (rndI (wordsF b) s v k) (wordsF b)) X).alloc (.cells (rowU 8 startF) 158)) wr) (fun i _ => 8 - (intOf i).toNat)
            case atStart => exact ⟨0, by omega, rfl, by repeat (first | exact ex_refl _ | refine ex_appR ?_ _ | refine ex_wx ?_ _ | refine ex_drew ?_)⟩
            case round =>
              obtain ⟨k, hk, rfl, X9, rfl⟩ := hrel
              by_cases hlt : k < 8
              · generalize hu : rndI (wordsF b) s v k = u
                go_wp2
                obtain ⟨p, hp⟩ : ∃ p : Nat → Nat, p = fun j => foursN.getD (k * 4 + j) 0 := ⟨_, rfl⟩
                have hf : fourS k = strD 4 p := by subst hp; rfl
                rw [hf]
                have hpl : ∀ j, p j < 16 := by subst hp; exact fun j => four_lt _
                have eu : step u p (wordsF b (s (2 * k))) (wordsF b (s (2 * k + 1))) = rndI (wordsF b) s v (k + 1) := by subst hu; subst hp; rfl
                clear hp hu hf
                have s0 : ((s (2 * k) : Nat) : Int) < 16 := by have := hsl (2 * k); omega
                have s1 : ((s (2 * k + 1) : Nat) : Int) < 16 := by have := hsl (2 * k + 1); omega
                refine wp_region_mix [(0, true), (1, true), (2, true), (3, true), (4, true), (5, true), (9, true), (10, true), (11, true), (12, true), (13, true), (6, false), (7, true), (8, true), (14, false), (15, true), (16, true), (17, false)] 18 (by kernel_rfl) (by kernel_rfl) (fun _ _ d _ _ h => by cases d <;> exact h) ?_
                simp only [List.map_cons, List.map_nil, nth, List.drop_succ_cons, List.drop_zero]
                repeat (first | (refine wpMix_look ?_; go_big_quiet_step (fail); refine wpQuiet_nil ?_) | (refine wpMix_eff rfl (fun X1 => ?_); go_wp2_with (first | (go_at_call 141; refine (digit_place _ (hsl _) _).mono ?_; rintro e w' ⟨rfl, rfl⟩) | (go_at_call 140; refine (mixed_any _ p hpl _ _ _).mono ?_; rintro e w' ⟨rfl, X, rfl⟩)); refine mixQ_mk (by first | exact ex_refl _ | exact ⟨_, rfl⟩ | exact ex_app _ _ _ | (simp only [wx_wx, wx_drew]; first | exact ex_refl _ | exact ex_app _ _ _ | exact ⟨_, rfl⟩) | (repeat (first | exact ex_refl _ | refine ex_drew ?_ | refine ex_alloc ?_ _ | refine ex_wx ?_ _))) ?_))
                refine wpMix_nil (fun X2 => ?_)
                go_wp2
                refine ⟨⟨k + 1, by omega, by go_num, ?_⟩, by simp [intOf]; omega⟩
                try rw [eu]
                repeat (first | exact ex_refl _ | refine ex_appR ?_ _ | refine ex_wx ?_ _ | refine ex_drew ?_)
              · obtain rfl : k = 8 := by omega
                clear hlt hk
                go_wp2
                refine ⟨⟨n + 1, by omega, by go_num, ?_⟩, by simp [intOf]; omega⟩
                try rw [en]
                repeat (first | exact ex_refl _ | refine ex_appR ?_ _ | refine ex_wx ?_ _ | refine ex_drew ?_)
          · obtain rfl : n = 10 := by omega
            clear hlt hn
            generalize hv : rndN (wordsF b) v0 10 = v
            clear hv0
            simp only [Int.cast_ofNat_Int]
            go_wp2
            go_loopw [117] (fun i wr => ∃ j : Nat, j ≤ 8 ∧ i = .int .i64 j ∧ ∃ G : Nat → UInt32, (∀ i, G i = if i < j then H i ^^^ (v i ^^^ v (i + 8)) else H i) ∧ Ex ((wx (refW w G b v (wordsF b)) X).alloc (.cells (rowU 8 startF) 158)) wr) (fun i _ => 8 - (intOf i).toNat)
            case atStart => exact ⟨0, by omega, rfl, H, fun i => by rw [if_neg (by omega)], by repeat (first | exact ex_refl _ | refine ex_appR ?_ _ | refine ex_drew ?_ | refine ex_alloc ?_ _ | refine ex_wx ?_ _)⟩
            case round =>
              obtain ⟨j, hj, rfl, G, hG, X9, rfl⟩ := hrel
              by_cases hlt : j < 8
              · go_wp2
                refine wp_region_mix [(0, true), (1, true), (2, true), (3, true), (4, true), (5, true), (6, true), (7, true), (8, true), (9, true), (10, true), (11, true), (12, true), (13, true)] 14 (by kernel_rfl) (by kernel_rfl) (fun _ _ d _ _ h => by cases d <;> exact h) ?_
                simp only [List.map_cons, List.map_nil, nth, List.drop_succ_cons, List.drop_zero]
                repeat (first | (refine wpMix_look ?_; go_big_quiet_step (fail); refine wpQuiet_nil ?_) | (refine wpMix_eff rfl (fun X1 => ?_); go_wp2_with (fail); refine mixQ_mk (by first | exact ex_refl _ | exact ⟨_, rfl⟩ | exact ex_app _ _ _ | (simp only [wx_wx, wx_drew]; first | exact ex_refl _ | exact ex_app _ _ _ | exact ⟨_, rfl⟩) | (repeat (first | exact ex_refl _ | refine ex_drew ?_ | refine ex_alloc ?_ _ | refine ex_wx ?_ _))) ?_))
                refine wpMix_nil (fun X2 => ?_)
                go_wp2
                all_goals
                  refine ⟨⟨j + 1, by omega, by go_num, upd G j (H j ^^^ v j ^^^ v (j + 8)), fun i => ?_, by repeat (first | exact ex_refl _ | refine ex_appR ?_ _ | refine ex_drew ?_ | refine ex_wx ?_ _)⟩, by simp [intOf]; omega⟩
                  unfold upd
                  by_cases hij : i = j
                  · subst hij; rw [if_pos rfl, if_pos (by omega), UInt32.xor_assoc]
                  · rw [if_neg hij, hG]
                    by_cases h2 : i < j
                    · rw [if_pos h2, if_pos (by omega)]
                    · rw [if_neg h2, if_neg (by omega)]
              · obtain rfl : j = 8 := by omega
                clear hlt hj
                have hR : rowU 8 G = rowU 8 fun i => H i ^^^ (v i ^^^ v (i + 8)) := rowU_congr fun i hi => by rw [hG, if_pos hi]
                simp only [refW, hR]
                clear hR hG
                go_wp2
                exact ret_row (cs := rowU 8 fun i => H i ^^^ (v i ^^^ v (i + 8))) Tryd.results112 Tryd.underlying158 rfl info_a8u rfl (by simp [go_sem]) rfl (post_mk (by rw [eB, hv]) (by repeat (first | exact ex_refl _ | refine ex_appR ?_ _ | refine ex_drew ?_ | refine ex_alloc ?_ _ | refine ex_wx ?_ _)))
end Go.Proofs.YtcdocklbpfdmeaaDoor
