/- BlakeSteps: what it does. -/
import Derived.Test.YtbebehcalephfaaDoorSums
set_option linter.unusedSimpArgs false
set_option linter.unusedVariables false
set_option maxRecDepth 20000
namespace Go.Proofs.YtbebehcalephfaaDoor
open Go.RowKit
@[local go_sem] theorem un_xor_formT (x : UInt32) : bits BinOp.xor IntKind.u32 (un x) 16842784 = un (x ^^^ 16842784) := un_xor x 16842784
theorem un_m8 (x : UInt32) : un x * (256 : Int) % (4294967296 : Int) = un (x <<< 8) := by have h := un_mul8 x; rw [IntKind.wrap_u32] at h; exact h
theorem un_m16 (x : UInt32) : un x * (65536 : Int) % (4294967296 : Int) = un (x <<< 16) := by have h := un_mul16 x; rw [IntKind.wrap_u32] at h; exact h
theorem un_m24 (x : UInt32) : un x * (16777216 : Int) % (4294967296 : Int) = un (x <<< 24) := by have h := un_mul24 x; rw [IntKind.wrap_u32] at h; exact h
@[local go_sem] theorem un_bn (x : UInt8) : IntKind.u32.wrap (bn x) = un x.toUInt32 := bn_u32 x
theorem byteF_nat (S : Nat → UInt32) (i q : Nat) (hq : q < 4) : (byteF S (4 * i + q)).toNat = (S i).toNat / 2 ^ (8 * q) % 256 := by
  unfold byteF
  rw [show (4 * i + q) / 4 = i by omega, show (4 * i + q) % 4 = q by omega]
  simp only [UInt32.toNat_toUInt8, UInt32.toNat_shiftRight]
  rw [show (UInt32.ofNat (8 * q)).toNat % 32 = 8 * q by simp; omega, Nat.shiftRight_eq_div_pow]
theorem word_back (S : Nat → UInt32) (i : Nat) : (byteF S (4 * i)).toUInt32 ||| (byteF S (4 * i + 1)).toUInt32 <<< 8 ||| (byteF S (4 * i + 2)).toUInt32 <<< 16 ||| (byteF S (4 * i + 3)).toUInt32 <<< 24 = S i := by
  have hx := (S i).toNat_lt
  have b0 := byteF_nat S i 0 (by omega)
  have b1 := byteF_nat S i 1 (by omega)
  have b2 := byteF_nat S i 2 (by omega)
  have b3 := byteF_nat S i 3 (by omega)
  obtain ⟨f, hf⟩ : ∃ f : Nat → UInt8, f = shiftF (byteF S) (4 * i) := ⟨_, rfl⟩
  have f0 : byteF S (4 * i) = f 0 := by rw [hf]; rfl
  have f1 : byteF S (4 * i + 1) = f 1 := by rw [hf]; rfl
  have f2 : byteF S (4 * i + 2) = f 2 := by rw [hf]; rfl
  have f3 : byteF S (4 * i + 3) = f 3 := by rw [hf]; rfl
  rw [Nat.add_zero] at b0
  rw [f0] at b0 ⊢; rw [f1] at b1 ⊢; rw [f2] at b2 ⊢; rw [f3] at b3 ⊢
  have hl : (f 0).toUInt32 ||| (f 1).toUInt32 <<< 8 ||| (f 2).toUInt32 <<< 16 ||| (f 3).toUInt32 <<< 24 = leK f 4 := by
    have e0 : leK f 1 = (f 0).toUInt32 := by simp [leK]
    show _ = leK f 1 ||| _ ||| _ ||| _
    rw [e0]; rfl
  rw [hl, ← leK_sum]
  have g0 := (f 0).toNat_lt; have g1 := (f 1).toNat_lt; have g2 := (f 2).toNat_lt; have g3 := (f 3).toNat_lt
  apply UInt32.toNat_inj.1
  simp only [UInt32.toNat_add, UInt32.toNat_shiftLeft, UInt8.toNat_toUInt32, Nat.shiftLeft_eq, b0, b1, b2, b3]
  simp
  omega
theorem word_int (S : Nat → UInt32) (j : Nat) : bits BinOp.or IntKind.u32 (bits BinOp.or IntKind.u32 (bits BinOp.or IntKind.u32 (un (byteF S (4 * j)).toUInt32) (un (byteF S (4 * j + 1)).toUInt32 * 256 % 4294967296)) (un (byteF S (4 * j + 2)).toUInt32 * 65536 % 4294967296)) (un (byteF S (4 * j + 3)).toUInt32 * 16777216 % 4294967296) = un (S j) := by
  rw [un_m8, un_m16, un_m24, un_or, un_or, un_or, word_back]
theorem block_lit {w w' : World} (G : Glob w) (k : Ex w w') (H : Nat → UInt32) (b : Nat → UInt8) (x : Int) (m : Nat) (hx : x = m) (hm : m < 18446744073709551616) (last : Bool) :
    Calls Tryd.prog 11 #[.agg (rowU 8 H), .agg (rowB 64 b), .int .u64 x, .bool last] w' (Post w' (.agg (rowU 8 (blockF H b (UInt64.ofNat m) last)))) := by
  have G' := G.ex k
  exact block_at H b x m hx hm last w' G'.g0 G'.g1 G'.g2 G'.z0 G'.z1 G'.z2
set_option maxHeartbeats 4000000 in
theorem steps_any (a : Option Addr) (n c : Nat) (f : Nat → UInt8) (w : World) (hE : (SlE.mk a n c f).ok w) (G : Glob w) :
    Calls Tryd.prog 6 #[.slice a n c] w (Post w (.bool true)) := by
  obtain ⟨m, hm, HF⟩ := few_hid hE
  simp only at HF
  go_enter Tryd.func6, Tryd.ntmps6
  go_wp2_with (first | (go_at_call 10; refine (wakes_any _ (G.ex (by repeat (first | exact ex_refl _ | refine ex_appR ?_ _ | refine ex_wx ?_ _ | refine ex_drew ?_ | refine ex_alloc ?_ _)))).mono ?_; rintro e w' ⟨rfl, X, rfl⟩) | (go_at_call 20; refine (HF.out _ (by repeat (first | exact ex_refl _ | refine ex_appR ?_ _ | refine ex_wx ?_ _ | refine ex_drew ?_ | refine ex_alloc ?_ _))).mono ?_; rintro e w' ⟨a1, c1, rfl, k1, k1', k1'', s1, X1, rfl⟩; (try simp only [wx_wx] at s1)) | (go_at_call 18; refine (start_glob G (by repeat (first | exact ex_refl _ | refine ex_appR ?_ _ | refine ex_wx ?_ _ | refine ex_drew ?_ | refine ex_alloc ?_ _))).mono ?_; rintro e w' ⟨rfl, X2, rfl⟩))
  have sY : SlB (wx w ((X.app X1).app X2)) a1 m f := s1.ex (by repeat (first | exact ex_refl _ | refine ex_appR ?_ _ | refine ex_wx ?_ _ | refine ex_drew ?_ | refine ex_alloc ?_ _))
  have GY : Glob (wx w ((X.app X1).app X2)) := G.ex (by repeat (first | exact ex_refl _ | refine ex_appR ?_ _ | refine ex_wx ?_ _ | refine ex_drew ?_ | refine ex_alloc ?_ _))
  have k1m : m ≤ 9223372036854775807 := by omega
  unfold maxLen at k1'
  simp only [← Nat.add_assoc, ← More.app_len]
  generalize (X.app X1).app X2 = Y at sY GY ⊢
  clear s1 X X1 X2 HF
  go_loopw [4] (fun i wr => ∃ k : Nat, 64 * k ≤ m ∧ (k = 0 ∨ 64 * k < m) ∧ i = I (64 * k : Nat) ∧ Ex ((wx w Y).alloc (.cells (rowU 8 (sumK f k)) 23)) wr) (fun i _ => m - (intOf i).toNat)
  case atStart => exact ⟨0, by omega, Or.inl rfl, rfl, (by repeat (first | exact ex_refl _ | refine ex_appR ?_ _ | refine ex_wx ?_ _ | refine ex_drew ?_ | refine ex_alloc ?_ _))⟩
  case round =>
    obtain ⟨k, hk, hk2, rfl, X0, rfl⟩ := hrel
    obtain ⟨T, hT⟩ : ∃ T : Nat, T = 64 * k := ⟨_, rfl⟩
    rw [← hT] at hk hk2 ⊢
    have HT : Hid (T = 64 * k) := Lib.hid hT
    clear hT
    by_cases hlt : T + 64 < m
    · obtain ⟨g, off, rfl, hg, hcell⟩ := sY.pos (by omega)
      have hc1 := SlB.cells hcell T 64 (by omega)
      rw [wx_size] at hg
      have hg2 : g < w.heap.size + Y.blocks.length + 1 := by omega
      clear hcell
      generalize hH : sumK f k = H
      have HH : Hid (sumK f k = H) := Lib.hid hH
      clear hH
      have e1 : (64 : Int) < (m : Int) - T := by omega
      have e2 : (T : Int) ≤ m := by omega
      have e3 : (m : Int) ≤ c1 := by omega
      have e4 : 64 ≤ m - T := by omega
      have e5 : (64 : Int) ≤ ((m - T : Nat) : Int) := by omega
      obtain ⟨T2, hT2⟩ : ∃ T2 : Nat, T2 = T + 64 := ⟨_, rfl⟩
      have HT2 : Hid (T2 = T + 64) := Lib.hid hT2
      clear hT2
      go_wp2
      refine wp_region_mix [(0, true), (1, true), (2, true), (3, true), (4, true), (5, true), (6, true), (7, true), (8, true), (9, false)] 10 (by kernel_rfl) (by kernel_rfl) (fun _ _ d _ _ h => by cases d <;> exact h) ?_
      simp only [List.map_cons, List.map_nil, nth, List.drop_succ_cons, List.drop_zero]
      repeat (first | (refine wpMix_look ?_; go_big_quiet_step (fail); refine wpQuiet_nil ?_) | (refine wpMix_eff rfl (fun X1 => ?_); go_wp2_with (go_at_call 11; refine (block_lit G (by repeat (first | exact ex_refl _ | refine ex_appR ?_ _ | refine ex_wx ?_ _ | refine ex_drew ?_ | refine ex_alloc ?_ _)) _ _ _ T2 (by have := HT2.out; omega) (by have := HT2.out; omega) _).mono ?_; rintro e w' ⟨rfl, X, rfl⟩); refine mixQ_mk (by first | exact ex_refl _ | exact ⟨_, rfl⟩ | exact ex_app _ _ _ | (simp only [wx_wx, wx_drew]; first | exact ex_refl _ | exact ex_app _ _ _ | exact ⟨_, rfl⟩) | (repeat (first | exact ex_refl _ | refine ex_drew ?_ | refine ex_alloc ?_ _ | refine ex_wx ?_ _))) ?_))
      refine wpMix_nil (fun X2 => ?_)
      go_wp2
      have e : sumK f (k + 1) = blockF H (shiftF f T) (UInt64.ofNat T2) false := by rw [← HH.out, HT2.out, HT.out]; rfl
      refine ⟨⟨k + 1, by have := HT.out; omega, Or.inr (by have := HT.out; omega), by have := HT.out; congr 1; omega, ?_⟩, by simp [intOf]; omega⟩
      rw [e]
      exact (by repeat (first | exact ex_refl _ | refine ex_appR ?_ _ | refine ex_wx ?_ _ | refine ex_drew ?_ | refine ex_alloc ?_ _))
    · have hkl : lastK m = k := by have := HT.out; unfold lastK; omega
      have eS : sumU f m = blockF (sumK f k) (tailF f m k) (UInt64.ofNat m) true := by unfold sumU; rw [hkl]
      generalize sumK f k = H at eS ⊢
      obtain ⟨r, hr⟩ : ∃ r, m - T = r := ⟨_, rfl⟩
      have e1 : ¬ (64 : Int) < (m : Int) - T := by omega
      have e2 : (T : Int) ≤ m := by omega
      have e3 : (m : Int) ≤ c1 := by omega
      have e4 : min r 64 = r := by omega
      have e5 : r ≤ 64 := by omega
      have eT : tailF f m k = over (fun _ => 0) 0 r (shiftF f T) := by unfold tailF; rw [← hr, HT.out]
      rw [eT] at eS
      obtain ⟨b, hb⟩ : ∃ b, over (fun _ => 0) 0 r (shiftF f T) = b := ⟨_, rfl⟩
      have HB : Hid (over (fun _ => 0) 0 r (shiftF f T) = b) := Lib.hid hb
      rw [hb] at eS
      generalize hS : sumU f m = S at eS
      have HS : Hid (sumU f m = S) := Lib.hid hS
      have ES : Hid (S = blockF H b (UInt64.ofNat m) true) := Lib.hid eS
      clear hkl eT hb hS eS
      rcases Nat.eq_zero_or_pos m with h0 | hpos
      · obtain rfl : T = 0 := by omega
        obtain rfl : r = 0 := by omega
        have hb2 : b = fun _ => 0 := by rw [← HB.out]; exact over_none _ _
        subst hb2
        subst h0
        clear hr e1 e2 e3 e4 e5 hlt hk hk2
        simp only [Int.cast_ofNat_Int]
        cases a1 with
        | none =>
          obtain rfl := k1'' rfl
          go_wp2
          refine wp_region_mix [(0, true), (1, true), (2, true), (3, true)] 4 (by kernel_rfl) (by kernel_rfl) (fun _ _ d _ _ h => by cases d <;> exact h) ?_
          simp only [List.map_cons, List.map_nil, nth, List.drop_succ_cons, List.drop_zero]
          repeat (first | (refine wpMix_look ?_; go_big_quiet_step (fail); refine wpQuiet_nil ?_) | (refine wpMix_eff rfl (fun X1 => ?_); go_wp2_with (fail); refine mixQ_mk (by first | exact ex_refl _ | exact ⟨_, rfl⟩ | exact ex_app _ _ _ | (simp only [wx_wx, wx_drew]; first | exact ex_refl _ | exact ex_app _ _ _ | exact ⟨_, rfl⟩) | (repeat (first | exact ex_refl _ | refine ex_drew ?_ | refine ex_alloc ?_ _ | refine ex_wx ?_ _))) ?_))
          refine wpMix_nil (fun X2 => ?_)
          go_wp2_with (first | (go_at_call 11; refine (block_lit G (by repeat (first | exact ex_refl _ | refine ex_appR ?_ _ | refine ex_wx ?_ _ | refine ex_drew ?_ | refine ex_alloc ?_ _)) _ _ _ 0 rfl (by omega) _).mono ?_; rintro e w' ⟨rfl, X5, rfl⟩; rw [← ES.out]) | (go_at_call 21; refine (sum_glob G (by repeat (first | exact ex_refl _ | refine ex_appR ?_ _ | refine ex_wx ?_ _ | refine ex_drew ?_ | refine ex_alloc ?_ _)) _ 0 _ f (by omega) (by unfold maxLen; omega) (by omega) (sY.ex (by repeat (first | exact ex_refl _ | refine ex_appR ?_ _ | refine ex_wx ?_ _ | refine ex_drew ?_ | refine ex_alloc ?_ _)))).mono ?_; rintro e w' ⟨rfl, X6, rfl⟩; rw [show sumF f 0 = byteF S from by rw [← HS.out]; rfl]))
          (try simp only [← More.app_len])
          generalize (More.app (More.app _ X5) X6) = Z
          go_loopw [49] (fun i wr => ∃ j : Nat, j ≤ 8 ∧ i = I j ∧ Ex (((wx ((wx ((wx w Y).alloc (.cells (rowU 8 S) 23)) X0).alloc (.cells (rowB 64 (fun _ => 0)) 24)) Z).alloc (.cells (rowB 32 (byteF S)) 46))) wr) (fun i _ => 8 - (intOf i).toNat)
          case atStart => exact ⟨0, by omega, rfl, (by repeat (first | exact ex_refl _ | refine ex_appR ?_ _ | refine ex_wx ?_ _ | refine ex_drew ?_ | refine ex_alloc ?_ _))⟩
          case round =>
            obtain ⟨j, hj, rfl, X9, rfl⟩ := hrel
            by_cases hlt : j < 8
            · have i0 : 0 ≤ 4 * (j : Int) := by omega
              have i1 : 0 ≤ 4 * (j : Int) + 1 := by omega
              have i2 : 0 ≤ 4 * (j : Int) + 2 := by omega
              have i3 : 0 ≤ 4 * (j : Int) + 3 := by omega
              have j0 : 4 * (j : Int) < 32 := by omega
              have j1 : 4 * (j : Int) + 1 < 32 := by omega
              have j2 : 4 * (j : Int) + 2 < 32 := by omega
              have j3 : 4 * (j : Int) + 3 < 32 := by omega
              have l0 : 4 * j < 32 := by omega
              have l1 : 4 * j + 1 < 32 := by omega
              have l2 : 4 * j + 2 < 32 := by omega
              have l3 : 4 * j + 3 < 32 := by omega
              have hwb := word_int S j
              go_wp2
              refine wp_region_mix [(0, true), (1, true), (2, true), (3, true), (4, true), (5, true), (6, true), (7, true), (8, true), (9, true), (10, true), (11, true), (12, true), (13, true), (14, true), (15, true), (16, true), (17, true), (18, true), (19, true), (20, true), (21, true), (22, true), (23, true), (24, true), (25, true), (26, true), (27, true), (28, true), (29, true), (30, true)] 31 (by kernel_rfl) (by kernel_rfl) (fun _ _ d _ _ h => by cases d <;> exact h) ?_
              simp only [List.map_cons, List.map_nil, nth, List.drop_succ_cons, List.drop_zero]
              repeat (first | (refine wpMix_look ?_; go_big_quiet_step (fail); refine wpQuiet_nil ?_) | (refine wpMix_eff rfl (fun X1 => ?_); go_wp2_with (fail); refine mixQ_mk (by first | exact ex_refl _ | exact ⟨_, rfl⟩ | exact ex_app _ _ _ | (simp only [wx_wx, wx_drew]; first | exact ex_refl _ | exact ex_app _ _ _ | exact ⟨_, rfl⟩) | (repeat (first | exact ex_refl _ | refine ex_drew ?_ | refine ex_alloc ?_ _ | refine ex_wx ?_ _))) ?_))
              refine wpMix_nil (fun X2 => ?_)
              go_wp2
              exact ⟨⟨j + 1, by omega, by go_num, (by repeat (first | exact ex_refl _ | refine ex_appR ?_ _ | refine ex_wx ?_ _ | refine ex_drew ?_ | refine ex_alloc ?_ _))⟩, by simp [intOf]; omega⟩
            · obtain rfl : j = 8 := by omega
              clear hlt hj
              go_wp2
              go_ret
              exact post_mk rfl (by repeat (first | exact ex_refl _ | refine ex_appR ?_ _ | refine ex_wx ?_ _ | refine ex_drew ?_ | refine ex_alloc ?_ _))
        | some ad =>
          by_cases hc0 : c1 = 0
          · subst hc0
            go_wp2
            refine wp_region_mix [(0, true), (1, true), (2, true), (3, true)] 4 (by kernel_rfl) (by kernel_rfl) (fun _ _ d _ _ h => by cases d <;> exact h) ?_
            simp only [List.map_cons, List.map_nil, nth, List.drop_succ_cons, List.drop_zero]
            repeat (first | (refine wpMix_look ?_; go_big_quiet_step (fail); refine wpQuiet_nil ?_) | (refine wpMix_eff rfl (fun X1 => ?_); go_wp2_with (fail); refine mixQ_mk (by first | exact ex_refl _ | exact ⟨_, rfl⟩ | exact ex_app _ _ _ | (simp only [wx_wx, wx_drew]; first | exact ex_refl _ | exact ex_app _ _ _ | exact ⟨_, rfl⟩) | (repeat (first | exact ex_refl _ | refine ex_drew ?_ | refine ex_alloc ?_ _ | refine ex_wx ?_ _))) ?_))
            refine wpMix_nil (fun X2 => ?_)
            go_wp2_with (first | (go_at_call 11; refine (block_lit G (by repeat (first | exact ex_refl _ | refine ex_appR ?_ _ | refine ex_wx ?_ _ | refine ex_drew ?_ | refine ex_alloc ?_ _)) _ _ _ 0 rfl (by omega) _).mono ?_; rintro e w' ⟨rfl, X5, rfl⟩; rw [← ES.out]) | (go_at_call 21; refine (sum_glob G (by repeat (first | exact ex_refl _ | refine ex_appR ?_ _ | refine ex_wx ?_ _ | refine ex_drew ?_ | refine ex_alloc ?_ _)) _ 0 _ f (by omega) (by unfold maxLen; omega) (by omega) (sY.ex (by repeat (first | exact ex_refl _ | refine ex_appR ?_ _ | refine ex_wx ?_ _ | refine ex_drew ?_ | refine ex_alloc ?_ _)))).mono ?_; rintro e w' ⟨rfl, X6, rfl⟩; rw [show sumF f 0 = byteF S from by rw [← HS.out]; rfl]))
            (try simp only [← More.app_len])
            generalize (More.app (More.app _ X5) X6) = Z
            go_loopw [49] (fun i wr => ∃ j : Nat, j ≤ 8 ∧ i = I j ∧ Ex (((wx ((wx ((wx w Y).alloc (.cells (rowU 8 S) 23)) X0).alloc (.cells (rowB 64 (fun _ => 0)) 24)) Z).alloc (.cells (rowB 32 (byteF S)) 46))) wr) (fun i _ => 8 - (intOf i).toNat)
            case atStart => exact ⟨0, by omega, rfl, (by repeat (first | exact ex_refl _ | refine ex_appR ?_ _ | refine ex_wx ?_ _ | refine ex_drew ?_ | refine ex_alloc ?_ _))⟩
            case round =>
              obtain ⟨j, hj, rfl, X9, rfl⟩ := hrel
              by_cases hlt : j < 8
              · have i0 : 0 ≤ 4 * (j : Int) := by omega
                have i1 : 0 ≤ 4 * (j : Int) + 1 := by omega
                have i2 : 0 ≤ 4 * (j : Int) + 2 := by omega
                have i3 : 0 ≤ 4 * (j : Int) + 3 := by omega
                have j0 : 4 * (j : Int) < 32 := by omega
                have j1 : 4 * (j : Int) + 1 < 32 := by omega
                have j2 : 4 * (j : Int) + 2 < 32 := by omega
                have j3 : 4 * (j : Int) + 3 < 32 := by omega
                have l0 : 4 * j < 32 := by omega
                have l1 : 4 * j + 1 < 32 := by omega
                have l2 : 4 * j + 2 < 32 := by omega
                have l3 : 4 * j + 3 < 32 := by omega
                have hwb := word_int S j
                go_wp2
                refine wp_region_mix [(0, true), (1, true), (2, true), (3, true), (4, true), (5, true), (6, true), (7, true), (8, true), (9, true), (10, true), (11, true), (12, true), (13, true), (14, true), (15, true), (16, true), (17, true), (18, true), (19, true), (20, true), (21, true), (22, true), (23, true), (24, true), (25, true), (26, true), (27, true), (28, true), (29, true), (30, true)] 31 (by kernel_rfl) (by kernel_rfl) (fun _ _ d _ _ h => by cases d <;> exact h) ?_
                simp only [List.map_cons, List.map_nil, nth, List.drop_succ_cons, List.drop_zero]
                repeat (first | (refine wpMix_look ?_; go_big_quiet_step (fail); refine wpQuiet_nil ?_) | (refine wpMix_eff rfl (fun X1 => ?_); go_wp2_with (fail); refine mixQ_mk (by first | exact ex_refl _ | exact ⟨_, rfl⟩ | exact ex_app _ _ _ | (simp only [wx_wx, wx_drew]; first | exact ex_refl _ | exact ex_app _ _ _ | exact ⟨_, rfl⟩) | (repeat (first | exact ex_refl _ | refine ex_drew ?_ | refine ex_alloc ?_ _ | refine ex_wx ?_ _))) ?_))
                refine wpMix_nil (fun X2 => ?_)
                go_wp2
                exact ⟨⟨j + 1, by omega, by go_num, (by repeat (first | exact ex_refl _ | refine ex_appR ?_ _ | refine ex_wx ?_ _ | refine ex_drew ?_ | refine ex_alloc ?_ _))⟩, by simp [intOf]; omega⟩
              · obtain rfl : j = 8 := by omega
                clear hlt hj
                go_wp2
                go_ret
                exact post_mk rfl (by repeat (first | exact ex_refl _ | refine ex_appR ?_ _ | refine ex_wx ?_ _ | refine ex_drew ?_ | refine ex_alloc ?_ _))
          · go_wp2
            refine wp_region_mix [(0, true), (1, true), (2, true), (3, true)] 4 (by kernel_rfl) (by kernel_rfl) (fun _ _ d _ _ h => by cases d <;> exact h) ?_
            simp only [List.map_cons, List.map_nil, nth, List.drop_succ_cons, List.drop_zero]
            repeat (first | (refine wpMix_look ?_; go_big_quiet_step (fail); refine wpQuiet_nil ?_) | (refine wpMix_eff rfl (fun X1 => ?_); go_wp2_with (fail); refine mixQ_mk (by first | exact ex_refl _ | exact ⟨_, rfl⟩ | exact ex_app _ _ _ | (simp only [wx_wx, wx_drew]; first | exact ex_refl _ | exact ex_app _ _ _ | exact ⟨_, rfl⟩) | (repeat (first | exact ex_refl _ | refine ex_drew ?_ | refine ex_alloc ?_ _ | refine ex_wx ?_ _))) ?_))
            refine wpMix_nil (fun X2 => ?_)
            go_wp2_with (first | (go_at_call 11; refine (block_lit G (by repeat (first | exact ex_refl _ | refine ex_appR ?_ _ | refine ex_wx ?_ _ | refine ex_drew ?_ | refine ex_alloc ?_ _)) _ _ _ 0 rfl (by omega) _).mono ?_; rintro e w' ⟨rfl, X5, rfl⟩; rw [← ES.out]) | (go_at_call 21; refine (sum_glob G (by repeat (first | exact ex_refl _ | refine ex_appR ?_ _ | refine ex_wx ?_ _ | refine ex_drew ?_ | refine ex_alloc ?_ _)) _ 0 _ f (by omega) (by unfold maxLen; omega) (by omega) (sY.ex (by repeat (first | exact ex_refl _ | refine ex_appR ?_ _ | refine ex_wx ?_ _ | refine ex_drew ?_ | refine ex_alloc ?_ _)))).mono ?_; rintro e w' ⟨rfl, X6, rfl⟩; rw [show sumF f 0 = byteF S from by rw [← HS.out]; rfl]))
            (try simp only [← More.app_len])
            generalize (More.app (More.app _ X5) X6) = Z
            go_loopw [49] (fun i wr => ∃ j : Nat, j ≤ 8 ∧ i = I j ∧ Ex (((wx ((wx ((wx w Y).alloc (.cells (rowU 8 S) 23)) X0).alloc (.cells (rowB 64 (fun _ => 0)) 24)) Z).alloc (.cells (rowB 32 (byteF S)) 46))) wr) (fun i _ => 8 - (intOf i).toNat)
            case atStart => exact ⟨0, by omega, rfl, (by repeat (first | exact ex_refl _ | refine ex_appR ?_ _ | refine ex_wx ?_ _ | refine ex_drew ?_ | refine ex_alloc ?_ _))⟩
            case round =>
              obtain ⟨j, hj, rfl, X9, rfl⟩ := hrel
              by_cases hlt : j < 8
              · have i0 : 0 ≤ 4 * (j : Int) := by omega
                have i1 : 0 ≤ 4 * (j : Int) + 1 := by omega
                have i2 : 0 ≤ 4 * (j : Int) + 2 := by omega
                have i3 : 0 ≤ 4 * (j : Int) + 3 := by omega
                have j0 : 4 * (j : Int) < 32 := by omega
                have j1 : 4 * (j : Int) + 1 < 32 := by omega
                have j2 : 4 * (j : Int) + 2 < 32 := by omega
                have j3 : 4 * (j : Int) + 3 < 32 := by omega
                have l0 : 4 * j < 32 := by omega
                have l1 : 4 * j + 1 < 32 := by omega
                have l2 : 4 * j + 2 < 32 := by omega
                have l3 : 4 * j + 3 < 32 := by omega
                have hwb := word_int S j
                go_wp2
                refine wp_region_mix [(0, true), (1, true), (2, true), (3, true), (4, true), (5, true), (6, true), (7, true), (8, true), (9, true), (10, true), (11, true), (12, true), (13, true), (14, true), (15, true), (16, true), (17, true), (18, true), (19, true), (20, true), (21, true), (22, true), (23, true), (24, true), (25, true), (26, true), (27, true), (28, true), (29, true), (30, true)] 31 (by kernel_rfl) (by kernel_rfl) (fun _ _ d _ _ h => by cases d <;> exact h) ?_
                simp only [List.map_cons, List.map_nil, nth, List.drop_succ_cons, List.drop_zero]
                repeat (first | (refine wpMix_look ?_; go_big_quiet_step (fail); refine wpQuiet_nil ?_) | (refine wpMix_eff rfl (fun X1 => ?_); go_wp2_with (fail); refine mixQ_mk (by first | exact ex_refl _ | exact ⟨_, rfl⟩ | exact ex_app _ _ _ | (simp only [wx_wx, wx_drew]; first | exact ex_refl _ | exact ex_app _ _ _ | exact ⟨_, rfl⟩) | (repeat (first | exact ex_refl _ | refine ex_drew ?_ | refine ex_alloc ?_ _ | refine ex_wx ?_ _))) ?_))
                refine wpMix_nil (fun X2 => ?_)
                go_wp2
                exact ⟨⟨j + 1, by omega, by go_num, (by repeat (first | exact ex_refl _ | refine ex_appR ?_ _ | refine ex_wx ?_ _ | refine ex_drew ?_ | refine ex_alloc ?_ _))⟩, by simp [intOf]; omega⟩
              · obtain rfl : j = 8 := by omega
                clear hlt hj
                go_wp2
                go_ret
                exact post_mk rfl (by repeat (first | exact ex_refl _ | refine ex_appR ?_ _ | refine ex_wx ?_ _ | refine ex_drew ?_ | refine ex_alloc ?_ _))
      · have e6 : ¬ c1 = T := by have := HT.out; omega
        obtain ⟨g, off, rfl, hg, hcell⟩ := sY.pos hpos
        have hc1 := SlB.cells hcell T r (by omega)
        rw [wx_size] at hg
        have hg2 : g < w.heap.size + Y.blocks.length + 1 := by omega
        have hg3 : g < w.heap.size + Y.blocks.length + 1 + X0.blocks.length + 1 := by omega
        clear hcell
        go_wp2
        refine wp_region_mix [(0, true), (1, true), (2, true), (3, true)] 4 (by kernel_rfl) (by kernel_rfl) (fun _ _ d _ _ h => by cases d <;> exact h) ?_
        simp only [List.map_cons, List.map_nil, nth, List.drop_succ_cons, List.drop_zero]
        repeat (first | (refine wpMix_look ?_; go_big_quiet_step (fail); refine wpQuiet_nil ?_) | (refine wpMix_eff rfl (fun X1 => ?_); go_wp2_with (fail); refine mixQ_mk (by first | exact ex_refl _ | exact ⟨_, rfl⟩ | exact ex_app _ _ _ | (simp only [wx_wx, wx_drew]; first | exact ex_refl _ | exact ex_app _ _ _ | exact ⟨_, rfl⟩) | (repeat (first | exact ex_refl _ | refine ex_drew ?_ | refine ex_alloc ?_ _ | refine ex_wx ?_ _))) ?_))
        refine wpMix_nil (fun X2 => ?_)
        go_wp2_with (first | (go_at_call 11; refine (block_lit G (by repeat (first | exact ex_refl _ | refine ex_appR ?_ _ | refine ex_wx ?_ _ | refine ex_drew ?_ | refine ex_alloc ?_ _)) _ _ _ m rfl (by omega) _).mono ?_; rintro e w' ⟨rfl, X5, rfl⟩; rw [HB.out, ← ES.out]) | (go_at_call 21; refine (sum_glob G (by repeat (first | exact ex_refl _ | refine ex_appR ?_ _ | refine ex_wx ?_ _ | refine ex_drew ?_ | refine ex_alloc ?_ _)) _ m _ f (by omega) (by unfold maxLen; omega) (by omega) (sY.ex (by repeat (first | exact ex_refl _ | refine ex_appR ?_ _ | refine ex_wx ?_ _ | refine ex_drew ?_ | refine ex_alloc ?_ _)))).mono ?_; rintro e w' ⟨rfl, X6, rfl⟩; rw [show sumF f m = byteF S from by rw [← HS.out]; rfl]))
        (try simp only [← More.app_len])
        generalize (More.app (More.app _ X5) X6) = Z
        go_loopw [49] (fun i wr => ∃ j : Nat, j ≤ 8 ∧ i = I j ∧ Ex (((wx ((wx ((wx w Y).alloc (.cells (rowU 8 S) 23)) X0).alloc (.cells (rowB 64 b) 24)) Z).alloc (.cells (rowB 32 (byteF S)) 46))) wr) (fun i _ => 8 - (intOf i).toNat)
        case atStart => exact ⟨0, by omega, rfl, (by repeat (first | exact ex_refl _ | refine ex_appR ?_ _ | refine ex_wx ?_ _ | refine ex_drew ?_ | refine ex_alloc ?_ _))⟩
        case round =>
          obtain ⟨j, hj, rfl, X9, rfl⟩ := hrel
          by_cases hlt : j < 8
          · have i0 : 0 ≤ 4 * (j : Int) := by omega
            have i1 : 0 ≤ 4 * (j : Int) + 1 := by omega
            have i2 : 0 ≤ 4 * (j : Int) + 2 := by omega
            have i3 : 0 ≤ 4 * (j : Int) + 3 := by omega
            have j0 : 4 * (j : Int) < 32 := by omega
            have j1 : 4 * (j : Int) + 1 < 32 := by omega
            have j2 : 4 * (j : Int) + 2 < 32 := by omega
            have j3 : 4 * (j : Int) + 3 < 32 := by omega
            have l0 : 4 * j < 32 := by omega
            have l1 : 4 * j + 1 < 32 := by omega
            have l2 : 4 * j + 2 < 32 := by omega
            have l3 : 4 * j + 3 < 32 := by omega
            have hwb := word_int S j
            go_wp2
            refine wp_region_mix [(0, true), (1, true), (2, true), (3, true), (4, true), (5, true), (6, true), (7, true), (8, true), (9, true), (10, true), (11, true), (12, true), (13, true), (14, true), (15, true), (16, true), (17, true), (18, true), (19, true), (20, true), (21, true), (22, true), (23, true), (24, true), (25, true), (26, true), (27, true), (28, true), (29, true), (30, true)] 31 (by kernel_rfl) (by kernel_rfl) (fun _ _ d _ _ h => by cases d <;> exact h) ?_
            simp only [List.map_cons, List.map_nil, nth, List.drop_succ_cons, List.drop_zero]
            repeat (first | (refine wpMix_look ?_; go_big_quiet_step (fail); refine wpQuiet_nil ?_) | (refine wpMix_eff rfl (fun X1 => ?_); go_wp2_with (fail); refine mixQ_mk (by first | exact ex_refl _ | exact ⟨_, rfl⟩ | exact ex_app _ _ _ | (simp only [wx_wx, wx_drew]; first | exact ex_refl _ | exact ex_app _ _ _ | exact ⟨_, rfl⟩) | (repeat (first | exact ex_refl _ | refine ex_drew ?_ | refine ex_alloc ?_ _ | refine ex_wx ?_ _))) ?_))
            refine wpMix_nil (fun X2 => ?_)
            go_wp2
            exact ⟨⟨j + 1, by omega, by go_num, (by repeat (first | exact ex_refl _ | refine ex_appR ?_ _ | refine ex_wx ?_ _ | refine ex_drew ?_ | refine ex_alloc ?_ _))⟩, by simp [intOf]; omega⟩
          · obtain rfl : j = 8 := by omega
            clear hlt hj
            go_wp2
            go_ret
            exact post_mk rfl (by repeat (first | exact ex_refl _ | refine ex_appR ?_ _ | refine ex_wx ?_ _ | refine ex_drew ?_ | refine ex_alloc ?_ _))
end Go.Proofs.YtbebehcalephfaaDoor
