import Derived.Test.YtcdocklbpfdmeaaDoorMLittle
import Derived.Test.YtcdocklbpfdmeaaDoorMRef
import Derived.Test.YtcdocklbpfdmeaaDoorMSl

/- Sum of the document: what it does. -/
set_option linter.unusedSimpArgs false
set_option linter.unusedVariables false
set_option maxRecDepth 20000
namespace Go.Proofs.YtcdocklbpfdmeaaDoor
open Go.RowKit
theorem refblock_at (H : Nat → UInt32) (b : Nat → UInt8) (x : Int) (m : Nat) (hx : x = m) (hm : m < 18446744073709551616) (last : Bool) (w : World) :
    Calls Tryd.prog 112 #[.agg (rowU 8 H), .agg (rowB 64 b), .int .u64 x, .bool last] w (Post w (.agg (rowU 8 (blockF H b (UInt64.ofNat m) last)))) := by
  have e : x = ln (UInt64.ofNat m) := by rw [hx]; unfold ln; rw [UInt64.toNat_ofNat_of_lt' hm]
  rw [e]
  exact refblock_any H b (UInt64.ofNat m) last w
@[local go_sem] theorem un_xor_formR (x : UInt32) : bits BinOp.xor IntKind.u32 (un x) 16842784 = un (x ^^^ 16842784) := un_xor x 16842784
@[local go_sem] theorem un_tmod256 (x : UInt32) : (un x).tmod 256 = un (x % 256) := by
  unfold un; simp [Int.tmod_eq_emod_of_nonneg]
@[local go_sem] theorem un_tdiv256 (x : UInt32) : (un x).tdiv 256 = un (x / 256) := by
  unfold un; simp [Int.tdiv_eq_ediv_of_nonneg]
@[local go_sem] theorem un_wrap32 (x : UInt32) : IntKind.u32.wrap (un x) = un x := by
  have := un_lt x; rw [IntKind.wrap_u32]; omega
@[local go_sem] theorem un_wrap8 (x : UInt32) : IntKind.u8.wrap (un x) = bn x.toUInt8 := by
  unfold un bn; rw [IntKind.wrap_u8]; simp
theorem byteF_step (h : Nat → UInt32) (i q : Nat) (hq : q < 4) (y : UInt32) (hy : y.toNat = (h i).toNat / 256 ^ q) : (y % 256).toUInt8 = byteF h (4 * i + q) := by
  unfold byteF
  apply UInt8.toNat_inj.1
  rw [show (4 * i + q) / 4 = i by omega, show (4 * i + q) % 4 = q by omega]
  simp only [UInt32.toNat_toUInt8, UInt32.toNat_mod, UInt32.toNat_shiftRight, hy]
  rw [show (UInt32.ofNat (8 * q)).toNat % 32 = 8 * q by simp; omega, Nat.shiftRight_eq_div_pow, Nat.pow_mul]
  simp
theorem over_none {α : Type} (z g : Nat → α) : over z 0 0 g = z := by
  funext j; unfold over; rw [if_neg (by omega)]
theorem over_snoc {α : Type} (z : Nat → α) (j : Nat) (g : Nat → α) : over z 0 (j + 1) g = upd (over z 0 j g) j (g j) := by
  funext i; simp only [over, upd, Nat.sub_zero, Nat.zero_add, Nat.zero_le, true_and]
  by_cases h : i = j
  · subst h; rw [if_pos (by omega), if_pos rfl]
  · rw [if_neg h]
    by_cases h2 : i < j
    · rw [if_pos (by omega), if_pos (by omega)]
    · rw [if_neg (by omega), if_neg (by omega)]
theorem lastK_last {n k T : Nat} (hk : Hid (k ≤ lastK n)) (hT : T = 64 * k) (h1 : T ≤ n) (h2 : n ≤ T + 64) : k = lastK n := by
  have := hk.out; unfold lastK at *; omega
theorem sum_last {f : Nat → UInt8} {n k T j : Nat} {H : Nat → UInt32} (hk : Hid (k ≤ lastK n)) (hT : T = 64 * k) (hH : H = sumK f k) (h1 : T ≤ n) (h2 : n ≤ T + 64) (hj : T + j = n) : sumU f n = blockF H (over (fun _ => 0) 0 j (shiftF f T)) (UInt64.ofNat n) true := by
  unfold sumU tailF
  rw [← lastK_last hk hT h1 h2, hH, hT, show n - 64 * k = j by omega]
set_option maxHeartbeats 2000000 in
theorem refsum_any (a : Option Addr) (n cap : Nat) (f : Nat → UInt8) (w : World) (hn : n ≤ cap) (hcap : cap ≤ maxLen) (hn48 : n ≤ 281474976710656) (hs : SlB w a n f) :
    Calls Tryd.prog 70 #[.slice a n cap] w (Post w (.agg (rowB 32 (sumF f n)))) := by
  unfold maxLen at hcap
  go_enter Tryd.func70, Tryd.ntmps70
  go_wp2_with (go_at_call 111; refine (refstart_any _).mono ?_; rintro e w' ⟨rfl, X, rfl⟩)
  go_loopw [4] (fun i wr => ∃ (k : Nat) (H : Nat → UInt32), i = I (64 * k : Nat) ∧ (k ≤ lastK n ∧ H = sumK f k ∨ k = lastK n + 1 ∧ H = sumU f n) ∧ Ex ((wx (w.alloc (.cells (rowB 32 fun _ => 0) 46)) X).alloc (.cells (rowU 8 H) 158)) wr) (fun i _ => n + 64 - (intOf i).toNat)
  case atStart => exact ⟨0, sumK f 0, rfl, Or.inl ⟨by omega, rfl⟩, ex_refl _⟩
  case round =>
    obtain ⟨k, H, rfl, hk, X0, rfl⟩ := hrel
    have hl : lastK n = (n - 1) / 64 := rfl
    obtain ⟨T, hT⟩ : ∃ T : Nat, T = 64 * k := ⟨_, rfl⟩
    rw [← hT]
    by_cases hlt : k ≤ lastK n
    · have hb : ((T : Int) == 0) = true ∨ ((T : Int) == 0) = false ∧ ((T : Int) < n) := by
        by_cases h0 : k = 0
        · subst h0; subst hT; exact Or.inl rfl
        · right; refine ⟨beq_eq_false_iff_ne.2 (by omega), by omega⟩
      have hTn : T ≤ n := by omega
      have hTm : T % 64 = 0 := by omega
      have hH : H = sumK f k := by rcases hk with h | h; exact h.2; omega
      have HT : Hid (T = 64 * k) := Lib.hid hT
      have HH := Lib.hid hH
      have HL := Lib.hid hl
      have hK := Lib.hid hlt
      clear hk hT hlt hl hH hTm
      rcases hb with hb | ⟨hb, hb2⟩
      all_goals
        by_cases hE : n < T + 64
        · have hE' : ¬ (T : Int) + 64 ≤ n := by omega
          go_wp2
          go_loopw [7] (fun i wr => ∃ j : Nat, T + j ≤ n ∧ i = I (T + j : Nat) ∧ wr = ((wx ((wx (w.alloc (.cells (rowB 32 fun _ => 0) 46)) X).alloc (.cells (rowU 8 H) 158)) X0).alloc (.cells (rowB 64 (over (fun _ => 0) 0 j (shiftF f T))) 160))) (fun i _ => n - (intOf i).toNat)
          case atStart => exact ⟨0, by omega, rfl, by rw [over_none]⟩
          case round =>
            obtain ⟨j, hj, rfl, rfl⟩ := hrel
            by_cases hjl : T + j < n
            · obtain ⟨g, off, rfl, hg, hc⟩ := hs.pos (by omega)
              have h1 := hc (T + j) (by omega)
              clear hc
              have h2 : ((T + j : Nat) : Int) < (n : Nat) := by omega
              have h3 : j < 64 := by omega
              have h4 : ((j : Nat) : Int) < 64 := by omega
              have h5 : ((T + j : Nat) : Int) - (T : Nat) = (j : Nat) := by omega
              go_wp2
              refine ⟨⟨j + 1, by omega, by go_num, ?_⟩, by simp [intOf]; omega⟩
              rw [over_snoc]
              rfl
            · have hj2 : T + j = n := by omega
              have h2 : ¬ ((T + j : Nat) : Int) < (n : Nat) := by omega
              obtain ⟨b, V, hb1, hb2, hb3⟩ : ∃ b V : _, rowB 64 (over (fun _ => 0) 0 j (shiftF f T)) = rowB 64 b ∧ V = blockF H b (UInt64.ofNat n) true ∧ (k + 1 ≤ lastK n ∧ V = sumK f (k + 1) ∨ k + 1 = lastK n + 1 ∧ V = sumU f n) := by
                exact ⟨_, _, rfl, sum_last hK HT.out HH.out hTn (by omega) hj2, Or.inr ⟨by have := lastK_last hK HT.out hTn (by omega); omega, rfl⟩⟩
              have HB : Hid _ := Lib.hid hb2
              have HV : Hid _ := Lib.hid hb3
              rw [hb1, hj2]
              clear hb1 hb2 hb3 hj hj2 hjl
              go_wp2_with (go_at_call 112; refine (refblock_at _ _ _ n (by omega) (by omega) _ _).mono ?_; rintro e w' ⟨rfl, X9, rfl⟩)
              rw [← HB.out]
              refine ⟨⟨k + 1, V, ?_, HV.out, ?_⟩, ?_⟩
              · have := HT.out
                congr 1; omega
              · repeat (first | exact ex_refl _ | refine ex_appR ?_ _ | refine ex_wx ?_ _ | refine ex_drew ?_ | refine ex_alloc ?_ _)
              · simp [intOf]; omega
        · have hE' : (T : Int) + 64 ≤ n := by omega
          go_wp2
          rw [show (T : Int) + 64 = ((T + 64 : Nat) : Int) from rfl]
          obtain ⟨E, hE2⟩ : ∃ E : Nat, E = T + 64 := ⟨_, rfl⟩
          rw [← hE2]
          have HE2 := Lib.hid hE2
          clear hE2
          by_cases hl : n = E
          · subst hl
            have h6 : n ≤ T + 64 := by have := HE2.out; omega
            go_loopw [7] (fun i wr => ∃ j : Nat, T + j ≤ n ∧ i = I (T + j : Nat) ∧ wr = ((wx ((wx (w.alloc (.cells (rowB 32 fun _ => 0) 46)) X).alloc (.cells (rowU 8 H) 158)) X0).alloc (.cells (rowB 64 (over (fun _ => 0) 0 j (shiftF f T))) 160))) (fun i _ => n - (intOf i).toNat)
            case atStart => exact ⟨0, by omega, rfl, by rw [over_none]⟩
            case round =>
              obtain ⟨j, hj, rfl, rfl⟩ := hrel
              by_cases hjl : T + j < n
              · obtain ⟨g, off, rfl, hg, hc⟩ := hs.pos (by omega)
                have h1 := hc (T + j) (by omega)
                clear hc
                have h2 : ((T + j : Nat) : Int) < (n : Nat) := by omega
                have h3 : j < 64 := by omega
                have h4 : ((j : Nat) : Int) < 64 := by omega
                have h5 : ((T + j : Nat) : Int) - (T : Nat) = (j : Nat) := by omega
                go_wp2
                refine ⟨⟨j + 1, by omega, by go_num, ?_⟩, by simp [intOf]; omega⟩
                rw [over_snoc]
                rfl
              · have hj2 : T + j = n := by omega
                have h2 : ¬ ((T + j : Nat) : Int) < (n : Nat) := by omega
                obtain ⟨b, V, hb1, hb2, hb3⟩ : ∃ b V : _, rowB 64 (over (fun _ => 0) 0 j (shiftF f T)) = rowB 64 b ∧ V = blockF H b (UInt64.ofNat n) true ∧ (k + 1 ≤ lastK n ∧ V = sumK f (k + 1) ∨ k + 1 = lastK n + 1 ∧ V = sumU f n) := by
                  exact ⟨_, _, rfl, sum_last hK HT.out HH.out hTn (by omega) hj2, Or.inr ⟨by have := lastK_last hK HT.out hTn (by omega); omega, rfl⟩⟩
                have HB : Hid _ := Lib.hid hb2
                have HV : Hid _ := Lib.hid hb3
                rw [hb1, hj2]
                clear hb1 hb2 hb3 hj hj2 hjl
                go_wp2_with (go_at_call 112; refine (refblock_at _ _ _ n (by omega) (by omega) _ _).mono ?_; rintro e w' ⟨rfl, X9, rfl⟩)
                rw [← HB.out]
                refine ⟨⟨k + 1, V, ?_, HV.out, ?_⟩, ?_⟩
                · have := HT.out
                  congr 1; omega
                · repeat (first | exact ex_refl _ | refine ex_appR ?_ _ | refine ex_wx ?_ _ | refine ex_drew ?_ | refine ex_alloc ?_ _)
                · simp [intOf]; omega
          · have h6 : E = T + 64 := HE2.out
            have h7 : E < n := by omega
            have h8 : E ≤ T + 64 := by omega
            have h9 : T + 64 ≤ E := by omega
            have h10 : ((E : Int) == n) = false := beq_eq_false_iff_ne.2 (by omega)
            clear h6
            go_loopw [7] (fun i wr => ∃ j : Nat, T + j ≤ E ∧ i = I (T + j : Nat) ∧ wr = ((wx ((wx (w.alloc (.cells (rowB 32 fun _ => 0) 46)) X).alloc (.cells (rowU 8 H) 158)) X0).alloc (.cells (rowB 64 (over (fun _ => 0) 0 j (shiftF f T))) 160))) (fun i _ => E - (intOf i).toNat)
            case atStart => exact ⟨0, by omega, rfl, by rw [over_none]⟩
            case round =>
              obtain ⟨j, hj, rfl, rfl⟩ := hrel
              by_cases hjl : T + j < E
              · obtain ⟨g, off, rfl, hg, hc⟩ := hs.pos (by omega)
                have h1 := hc (T + j) (by omega)
                clear hc
                have h2 : ((T + j : Nat) : Int) < (E : Nat) := by omega
                have h3 : j < 64 := by omega
                have h4 : ((j : Nat) : Int) < 64 := by omega
                have h5 : ((T + j : Nat) : Int) - (T : Nat) = (j : Nat) := by omega
                go_wp2
                refine ⟨⟨j + 1, by omega, by go_num, ?_⟩, by simp [intOf]; omega⟩
                rw [over_snoc]
                rfl
              · have hj2 : T + j = E := by omega
                have h2 : ¬ ((T + j : Nat) : Int) < (E : Nat) := by omega
                obtain ⟨b, V, hb1, hb2, hb3⟩ : ∃ b V : _, rowB 64 (over (fun _ => 0) 0 j (shiftF f T)) = rowB 64 b ∧ V = blockF H b (UInt64.ofNat E) false ∧ (k + 1 ≤ lastK n ∧ V = sumK f (k + 1) ∨ k + 1 = lastK n + 1 ∧ V = sumU f n) := by
                  exact ⟨shiftF f T, sumK f (k + 1), rowB_congr (fun i hi => by rw [show j = 64 by omega]; simp [over, hi]), by rw [HE2.out, HT.out, HH.out]; rfl, Or.inl ⟨by unfold lastK; have := HT.out; omega, rfl⟩⟩
                have HB : Hid _ := Lib.hid hb2
                have HV : Hid _ := Lib.hid hb3
                rw [hb1, hj2]
                clear hb1 hb2 hb3 hj hj2 hjl
                go_wp2_with (go_at_call 112; refine (refblock_at _ _ _ E (by omega) (by omega) _ _).mono ?_; rintro e w' ⟨rfl, X9, rfl⟩)
                rw [← HB.out]
                refine ⟨⟨k + 1, V, ?_, HV.out, ?_⟩, ?_⟩
                · have := HT.out
                  congr 1; omega
                · repeat (first | exact ex_refl _ | refine ex_appR ?_ _ | refine ex_wx ?_ _ | refine ex_drew ?_ | refine ex_alloc ?_ _)
                · simp [intOf]; omega
    · have hH : H = sumU f n := by rcases hk with h | h; omega; exact h.2
      have hk2 : k = lastK n + 1 := by omega
      have hb : ((T : Int) == 0) = false := beq_eq_false_iff_ne.2 (by omega)
      have hb2 : ¬ ((T : Int) < n) := by omega
      have eF : sumF f n = byteF (sumU f n) := rfl
      rw [hH]
      generalize sumU f n = S at eF ⊢
      have EF : Hid (sumF f n = byteF S) := Lib.hid eF
      clear hk hT hlt hl hk2 hH eF H k
      go_wp2
      go_loopw [55] (fun i wr => ∃ (k : Nat) (G : Nat → UInt8), k ≤ 8 ∧ i = I k ∧ (∀ i, i < 4 * k → G i = byteF S i) ∧ Ex (((wx ((wx (w.alloc (.cells (rowB 32 fun _ => 0) 46)) X).alloc (.cells (rowU 8 S) 158)) X0)).alloc (.cells (rowB 32 G) 46)) wr) (fun i _ => 8 - (intOf i).toNat)
      case atStart => exact ⟨0, fun _ => 0, by omega, rfl, fun i hi => by omega, ex_refl _⟩
      case round =>
        obtain ⟨k, G, hk, rfl, hG, X1, rfl⟩ := hrel
        by_cases hlt : k < 8
        · go_wp2
          go_loopw [10, 61] (fun x i wr => ∃ (q : Nat) (G : Nat → UInt8) (y : UInt32), q ≤ 4 ∧ i = I q ∧ x = U y ∧ y.toNat = (S k).toNat / 256 ^ q ∧ (∀ i, i < 4 * k + q → G i = byteF S i) ∧ wr = wx ((wx ((wx (w.alloc (.cells (rowB 32 fun _ => 0) 46)) X).alloc (.cells (rowU 8 S) 158)) X0).alloc (.cells (rowB 32 G) 46)) X1) (fun _ i _ => 4 - (intOf i).toNat)
          case atStart => exact ⟨0, G, S k, by omega, rfl, rfl, by simp, hG, rfl⟩
          case round =>
            obtain ⟨q, G, y, hq, rfl, rfl, hy, hG, rfl⟩ := hrel
            by_cases hlt : q < 4
            · have hby := byteF_step S k q hlt y hy
              have i1 : 4 * (k : Int) + q < 32 := by omega
              have HY : Hid (y.toNat = (S k).toNat / 256 ^ q) := Lib.hid hy
              have HBY : Hid ((y % 256).toUInt8 = byteF S (4 * k + q)) := Lib.hid hby
              clear hy hby
              go_wp2
              refine ⟨⟨q + 1, upd G (4 * k + q) (byteF S (4 * k + q)), y / 256, by omega, by go_num, rfl, ?_, fun i hi => ?_, ?_⟩, by simp [intOf]; omega⟩
              · rw [UInt32.toNat_div, HY.out, Nat.pow_succ, ← Nat.div_div_eq_div_mul]; rfl
              · unfold upd
                by_cases h3 : i = 4 * k + q
                · rw [if_pos h3, h3]
                · rw [if_neg h3]; exact hG i (by omega)
              · rw [HBY.out]
            · obtain rfl : q = 4 := by omega
              clear hlt hq
              go_wp2
              refine ⟨⟨k + 1, G, by omega, by go_num, fun i hi => hG i (by omega), ?_⟩, by simp [intOf]; omega⟩
              repeat (first | exact ex_refl _ | refine ex_appR ?_ _ | refine ex_wx ?_ _ | refine ex_drew ?_ | refine ex_alloc ?_ _)
        · obtain rfl : k = 8 := by omega
          clear hlt hk
          have hR : rowB 32 G = rowB 32 (byteF S) := rowB_congr fun i hi => hG i (by omega)
          simp only [hR]
          clear hR hG
          go_wp2
          exact ret_row (cs := rowB 32 (byteF S)) Tryd.results70 Tryd.underlying46 rfl info_id rfl (by simp [go_sem]; repeat (first | rw [if_pos (by omega)] | rw [if_neg (by omega)])) rfl (post_mk (by rw [EF.out]) (by repeat (first | exact ex_refl _ | refine ex_appR ?_ _ | refine ex_drew ?_ | refine ex_alloc ?_ _ | refine ex_wx ?_ _)))
end Go.Proofs.YtcdocklbpfdmeaaDoor
