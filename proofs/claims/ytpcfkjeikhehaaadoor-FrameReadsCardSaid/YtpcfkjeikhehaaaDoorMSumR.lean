import Derived.Test.YtpcfkjeikhehaaaDoorMMix
import Derived.Test.YtpcfkjeikhehaaaDoorMMixR
import Derived.Test.YtpcfkjeikhehaaaDoorMSl
import Derived.Test.YtpcfkjeikhehaaaDoorMApp
import Derived.Test.YtpcfkjeikhehaaaDoorMSum

/- Sum of the document: what it does. -/
set_option linter.unusedSimpArgs false
set_option linter.unusedVariables false
set_option maxRecDepth 20000
namespace Go.Proofs.YtpcfkjeikhehaaaDoor
open Go.RowKit
theorem refblock_at (H : Nat → UInt32) (b : Nat → UInt8) (x : Int) (m : Nat) (hx : x = m) (hm : m < 18446744073709551616) (last : Bool) (w : World) :
    Calls Tryd.prog 68 #[.agg (rowU 8 H), .agg (rowB 64 b), .int .u64 x, .bool last] w (Post w (.agg (rowU 8 (blockF H b (UInt64.ofNat m) last)))) := by
  have e : x = ln (UInt64.ofNat m) := by rw [hx]; unfold ln; rw [UInt64.toNat_ofNat_of_lt' hm]
  rw [e]
  exact refblock_any H b (UInt64.ofNat m) last w
@[local go_sem] theorem un_xor_formR (x : UInt32) : bits BinOp.xor IntKind.u32 (un x) 16842784 = un (x ^^^ 16842784) := un_xor x 16842784
@[local go_sem] theorem un_tmod256 (x : UInt32) : (un x).tmod 256 = un (x % 256) := by
  unfold un; simp [Int.tmod_eq_emod_of_nonneg]
@[local go_sem] theorem un_tdiv256 (x : UInt32) : (un x).tdiv 256 = un (x / 256) := by
  unfold un; simp [Int.tdiv_eq_ediv_of_nonneg]
@[local go_sem] theorem un_wrap32 (x : UInt32) : IntKind.u32.wrap (un x) = un x := by
  have := un_lt x; rw [IntKind.wrap_u32]; omega
@[local go_sem] theorem un_wrap8 (x : UInt32) : IntKind.u8.wrap (un x) = bn x.toUInt8 := by
  unfold un bn; rw [IntKind.wrap_u8]; simp
theorem byteF_step (h : Nat → UInt32) (i q : Nat) (hq : q < 4) (y : UInt32) (hy : y.toNat = (h i).toNat / 256 ^ q) : (y % 256).toUInt8 = byteF h (4 * i + q) := by
  unfold byteF
  apply UInt8.toNat_inj.1
  rw [show (4 * i + q) / 4 = i by omega, show (4 * i + q) % 4 = q by omega]
  simp only [UInt32.toNat_toUInt8, UInt32.toNat_mod, UInt32.toNat_shiftRight, hy]
  rw [show (UInt32.ofNat (8 * q)).toNat % 32 = 8 * q by simp; omega, Nat.shiftRight_eq_div_pow, Nat.pow_mul]
  simp
theorem over_none {α : Type} (z g : Nat → α) : over z 0 0 g = z := by
  funext j; unfold over; rw [if_neg (by omega)]
theorem over_snoc {α : Type} (z : Nat → α) (j : Nat) (g : Nat → α) : over z 0 (j + 1) g = upd (over z 0 j g) j (g j) := by
  funext i; simp only [over, upd, Nat.sub_zero, Nat.zero_add, Nat.zero_le, true_and]
  by_cases h : i = j
  · subst h; rw [if_pos (by omega), if_pos rfl]
  · rw [if_neg h]
    by_cases h2 : i < j
    · rw [if_pos (by omega), if_pos (by omega)]
    · rw [if_neg (by omega), if_neg (by omega)]
theorem lastK_last {n k T : Nat} (hk : Hid (k ≤ lastK n)) (hT : T = 64 * k) (h1 : T ≤ n) (h2 : n ≤ T + 64) : k = lastK n := by
  have := hk.out; unfold lastK at *; omega
theorem sum_last {f : Nat → UInt8} {n k T j : Nat} {H : Nat → UInt32} (hk : Hid (k ≤ lastK n)) (hT : T = 64 * k) (hH : H = sumK f k) (h1 : T ≤ n) (h2 : n ≤ T + 64) (hj : T + j = n) : sumU f n = blockF H (over (fun _ => 0) 0 j (shiftF f T)) (UInt64.ofNat n) true := by
  unfold sumU tailF
  rw [← lastK_last hk hT h1 h2, hH, hT, show n - 64 * k = j by omega]
set_option maxHeartbeats 2000000 in
theorem refsum_any (a : Option Addr) (n cap : Nat) (f : Nat → UInt8) (w : World) (hn : n ≤ cap) (hcap : cap ≤ maxLen) (hn48 : n ≤ 281474976710656) (hs : SlB w a n f) :
    Calls Tryd.prog 47 #[.slice a n cap] w (Post w (.agg (rowB 32 (sumF f n)))) := by
  unfold maxLen at hcap
  go_enter Tryd.func47, Tryd.ntmps47
  go_wp2_with (go_at_call 67; refine (refstart_any _).mono ?_; rintro e w' ⟨rfl, X, rfl⟩)
  go_loopw [4] (fun i wr => ∃ (k : Nat) (H : Nat → UInt32), i = I (64 * k : Nat) ∧ (k ≤ lastK n ∧ H = sumK f k ∨ k = lastK n + 1 ∧ H = sumU f n) ∧ Ex ((wx (w.alloc (.cells (rowB 32 fun _ => 0) 75)) X).alloc (.cells (rowU 8 H) 99)) wr) (fun i _ => n + 64 - (intOf i).toNat)
  case atStart => exact ⟨0, sumK f 0, rfl, Or.inl ⟨by omega, rfl⟩, ex_refl _⟩
  case round =>
    obtain ⟨k, H, rfl, hk, X0, rfl⟩ := hrel
    have hl : lastK n = (n - 1) / 64 := rfl
    obtain ⟨T, hT⟩ : ∃ T : Nat, T = 64 * k := ⟨_, rfl⟩
    rw [← hT]
    by_cases hlt : k ≤ lastK n
    · have hb : ((T : Int) == 0) = true ∨ ((T : Int) == 0) = false ∧ ((T : Int) < n) := by
        by_cases h0 : k = 0
        · subst h0; subst hT; exact Or.inl rfl
        · right; refine ⟨beq_eq_false_iff_ne.2 (by omega), by omega⟩
      have hTn : T ≤ n := by omega
      have hTm : T % 64 = 0 := by omega
      have hH : H = sumK f k := by rcases hk with h | h; exact h.2; omega
      have HT : Hid (T = 64 * k) := Lib.hid hT
      have HH := Lib.hid hH
      have HL := Lib.hid hl
      have hK := Lib.hid hlt
      clear hk hT hlt hl hH hTm
      rcases hb with hb | ⟨hb, hb2⟩
      all_goals
        by_cases hE : n < T + 64
        · have hE' : ¬ (T : Int) + 64 ≤ n := by omega
          go_wp2
          go_loopw [7] (fun i wr => ∃ j : Nat, T + j ≤ n ∧ i = I (T + j : Nat) ∧ wr = ((wx ((wx (w.alloc (.cells (rowB 32 fun _ => 0) 75)) X).alloc (.cells (rowU 8 H) 99)) X0).alloc (.cells (rowB 64 (over (fun _ => 0) 0 j (shiftF f T))) 101))) (fun i _ => n - (intOf i).toNat)
          case atStart => exact ⟨0, by omega, rfl, by rw [over_none]⟩
          case round =>
            obtain ⟨j, hj, rfl, rfl⟩ := hrel
            by_cases hjl : T + j < n
            · obtain ⟨g, off, rfl, hg, hc⟩ := hs.pos (by omega)
              have h1 := hc (T + j) (by omega)
              clear hc
              have h2 : ((T + j : Nat) : Int) < (n : Nat) := by omega
              have h3 : j < 64 := by omega
              have h4 : ((j : Nat) : Int) < 64 := by omega
              have h5 : ((T + j : Nat) : Int) - (T : Nat) = (j : Nat) := by omega
              go_wp2
              refine ⟨⟨j + 1, by omega, by go_num, ?_⟩, by simp [intOf]; omega⟩
              rw [over_snoc]
              rfl
            · have hj2 : T + j = n := by omega
              have h2 : ¬ ((T + j : Nat) : Int) < (n : Nat) := by omega
              obtain ⟨b, V, hb1, hb2, hb3⟩ : ∃ b V : _, rowB 64 (over (fun _ => 0) 0 j (shiftF f T)) = rowB 64 b ∧ V = blockF H b (UInt64.ofNat n) true ∧ (k + 1 ≤ lastK n ∧ V = sumK f (k + 1) ∨ k + 1 = lastK n + 1 ∧ V = sumU f n) := by
                exact ⟨_, _, rfl, sum_last hK HT.out HH.out hTn (by omega) hj2, Or.inr ⟨by have := lastK_last hK HT.out hTn (by omega); omega, rfl⟩⟩
              have HB : Hid _ := Lib.hid hb2
              have HV : Hid _ := Lib.hid hb3
              rw [hb1, hj2]
              clear hb1 hb2 hb3 hj hj2 hjl
              go_wp2_with (go_at_call 68; refine (refblock_at _ _ _ n (by omega) (by omega) _ _).mono ?_; rintro e w' ⟨rfl, X9, rfl⟩)
              rw [← HB.out]
              refine ⟨⟨k + 1, V, ?_, HV.out, ?_⟩, ?_⟩
              · have := HT.out
                congr 1; omega
              · repeat (first | exact ex_refl _ | refine ex_appR ?_ _ | refine ex_wx ?_ _ | refine ex_drew ?_ | refine ex_alloc ?_ _)
              · simp [intOf]; omega
        · have hE' : (T : Int) + 64 ≤ n := by omega
          go_wp2
          rw [show (T : Int) + 64 = ((T + 64 : Nat) : Int) from rfl]
          obtain ⟨E, hE2⟩ : ∃ E : Nat, E = T + 64 := ⟨_, rfl⟩
          rw [← hE2]
          have HE2 := Lib.hid hE2
          clear hE2
          by_cases hl : n = E
          · subst hl
            have h6 : n ≤ T + 64 := by have := HE2.out; omega
            go_loopw [7] (fun i wr => ∃ j : Nat, T + j ≤ n ∧ i = I (T + j : Nat) ∧ wr = ((wx ((wx (w.alloc (.cells (rowB 32 fun _ => 0) 75)) X).alloc (.cells (rowU 8 H) 99)) X0).alloc (.cells (rowB 64 (over (fun _ => 0) 0 j (shiftF f T))) 101))) (fun i _ => n - (intOf i).toNat)
            case atStart => exact ⟨0, by omega, rfl, by rw [over_none]⟩
            case round =>
              obtain ⟨j, hj, rfl, rfl⟩ := hrel
              by_cases hjl : T + j < n
              · obtain ⟨g, off, rfl, hg, hc⟩ := hs.pos (by omega)
                have h1 := hc (T + j) (by omega)
                clear hc
                have h2 : ((T + j : Nat) : Int) < (n : Nat) := by omega
                have h3 : j < 64 := by omega
                have h4 : ((j : Nat) : Int) < 64 := by omega
                have h5 : ((T + j : Nat) : Int) - (T : Nat) = (j : Nat) := by omega
                go_wp2
                refine ⟨⟨j + 1, by omega, by go_num, ?_⟩, by simp [intOf]; omega⟩
                rw [over_snoc]
                rfl
              · have hj2 : T + j = n := by omega
                have h2 : ¬ ((T + j : Nat) : Int) < (n : Nat) := by omega
                obtain ⟨b, V, hb1, hb2, hb3⟩ : ∃ b V : _, rowB 64 (over (fun _ => 0) 0 j (shiftF f T)) = rowB 64 b ∧ V = blockF H b (UInt64.ofNat n) true ∧ (k + 1 ≤ lastK n ∧ V = sumK f (k + 1) ∨ k + 1 = lastK n + 1 ∧ V = sumU f n) := by
                  exact ⟨_, _, rfl, sum_last hK HT.out HH.out hTn (by omega) hj2, Or.inr ⟨by have := lastK_last hK HT.out hTn (by omega); omega, rfl⟩⟩
                have HB : Hid _ := Lib.hid hb2
                have HV : Hid _ := Lib.hid hb3
                rw [hb1, hj2]
                clear hb1 hb2 hb3 hj hj2 hjl
                go_wp2_with (go_at_call 68; refine (refblock_at _ _ _ n (by omega) (by omega) _ _).mono ?_; rintro e w' ⟨rfl, X9, rfl⟩)
                rw [← HB.out]
                refine ⟨⟨k + 1, V, ?_, HV.out, ?_⟩, ?_⟩
                · have := HT.out
                  congr 1; omega
                · repeat (first | exact ex_refl _ | refine ex_appR ?_ _ | refine ex_wx ?_ _ | refine ex_drew ?_ | refine ex_alloc ?_ _)
                · simp [intOf]; omega
          · have h6 : E = T + 64 := HE2.out
            have h7 : E < n := by omega
            have h8 : E ≤ T + 64 := by omega
            have h9 : T + 64 ≤ E := by omega
            have h10 : ((E : Int) == n) = false := beq_eq_false_iff_ne.2 (by omega)
            clear h6
            go_loopw [7] (fun i wr => ∃ j : Nat, T + j ≤ E ∧ i = I (T + j : Nat) ∧ wr = ((wx ((wx (w.alloc (.cells (rowB 32 fun _ => 0) 75)) X).alloc (.cells (rowU 8 H) 99)) X0).alloc (.cells (rowB 64 (over (fun _ => 0) 0 j (shiftF f T))) 101))) (fun i _ => E - (intOf i).toNat)
            case atStart => exact ⟨0, by omega, rfl, by rw [over_none]⟩
            case round =>
              obtain ⟨j, hj, rfl, rfl⟩ := hrel
              by_cases hjl : T + j < E
              · obtain ⟨g, off, rfl, hg, hc⟩ := hs.pos (by omega)
                have h1 := hc (T + j) (by omega)
                clear hc
                have h2 : ((T + j : Nat) : Int) < (E : Nat) := by omega
                have h3 : j < 64 := by omega
                have h4 : ((j : Nat) : Int) < 64 := by omega
                have h5 : ((T + j : Nat) : Int) - (T : Nat) = (j : Nat) := by omega
                go_wp2
                refine ⟨⟨j + 1, by omega, by go_num, ?_⟩, by simp [intOf]; omega⟩
                rw [over_snoc]
                rfl
              · have hj2 : T + j = E := by omega
                have h2 : ¬ ((T + j : Nat) : Int) < (E : Nat) := by omega
                obtain ⟨b, V, hb1, hb2, hb3⟩ : ∃ b V : _, rowB 64 (over (fun _ => 0) 0 j (shiftF f T)) = rowB 64 b ∧ V = blockF H b (UInt64.ofNat E) false ∧ (k + 1 ≤ lastK n ∧ V = sumK f (k + 1) ∨ k + 1 = lastK n + 1 ∧ V = sumU f n) := by
                  exact ⟨shiftF f T, sumK f (k + 1), rowB_congr (fun i hi => by rw [show j = 64 by omega]; simp [over, hi]), by rw [HE2.out, HT.out, HH.out]; rfl, Or.inl ⟨by unfold lastK; have := HT.out; omega, rfl⟩⟩
                have HB : Hid _ := Lib.hid hb2
                have HV : Hid _ := Lib.hid hb3
                rw [hb1, hj2]
                clear hb1 hb2 hb3 hj hj2 hjl
                go_wp2_with (go_at_call 68; refine (refblock_at _ _ _ E (by omega) (by omega) _ _).mono ?_; rintro e w' ⟨rfl, X9, rfl⟩)
                rw [← HB.out]
                refine ⟨⟨k + 1, V, ?_, HV.out, ?_⟩, ?_⟩
                · have := HT.out
                  congr 1; omega
                · repeat (first | exact ex_refl _ | refine ex_appR ?_ _ | refine ex_wx ?_ _ | refine ex_drew ?_ | refine ex_alloc ?_ _)
                · simp [intOf]; omega
    · have hH : H = sumU f n := by rcases hk with h | h; omega; exact h.2
      have hk2 : k = lastK n + 1 := by omega
      have hb : ((T : Int) == 0) = false := beq_eq_false_iff_ne.2 (by omega)
      have hb2 : ¬ ((T : Int) < n) := by omega
      have eF : sumF f n = byteF (sumU f n) := rfl
      rw [hH]
      generalize sumU f n = S at eF ⊢
      have EF : Hid (sumF f n = byteF S) := Lib.hid eF
      clear hk hT hlt hl hk2 hH eF H k
      go_wp2
      go_loopw [55] (fun i wr => ∃ (k : Nat) (G : Nat → UInt8), k ≤ 8 ∧ i = I k ∧ (∀ i, i < 4 * k → G i = byteF S i) ∧ Ex (((wx ((wx (w.alloc (.cells (rowB 32 fun _ => 0) 75)) X).alloc (.cells (rowU 8 S) 99)) X0)).alloc (.cells (rowB 32 G) 75)) wr) (fun i _ => 8 - (intOf i).toNat)
      case atStart => exact ⟨0, fun _ => 0, by omega, rfl, fun i hi => by omega, ex_refl _⟩
      case round =>
        obtain ⟨k, G, hk, rfl, hG, X1, rfl⟩ := hrel
        by_cases hlt : k < 8
        · go_wp2
          go_loopw [10, 61] (fun x i wr => ∃ (q : Nat) (G : Nat → UInt8) (y : UInt32), q ≤ 4 ∧ i = I q ∧ x = U y ∧ y.toNat = (S k).toNat / 256 ^ q ∧ (∀ i, i < 4 * k + q → G i = byteF S i) ∧ wr = wx ((wx ((wx (w.alloc (.cells (rowB 32 fun _ => 0) 75)) X).alloc (.cells (rowU 8 S) 99)) X0).alloc (.cells (rowB 32 G) 75)) X1) (fun _ i _ => 4 - (intOf i).toNat)
          case atStart => exact ⟨0, G, S k, by omega, rfl, rfl, by simp, hG, rfl⟩
          case round =>
            obtain ⟨q, G, y, hq, rfl, rfl, hy, hG, rfl⟩ := hrel
            by_cases hlt : q < 4
            · have hby := byteF_step S k q hlt y hy
              have i1 : 4 * (k : Int) + q < 32 := by omega
              have HY : Hid (y.toNat = (S k).toNat / 256 ^ q) := Lib.hid hy
              have HBY : Hid ((y % 256).toUInt8 = byteF S (4 * k + q)) := Lib.hid hby
              clear hy hby
              go_wp2
              refine ⟨⟨q + 1, upd G (4 * k + q) (byteF S (4 * k + q)), y / 256, by omega, by go_num, rfl, ?_, fun i hi => ?_, ?_⟩, by simp [intOf]; omega⟩
              · rw [UInt32.toNat_div, HY.out, Nat.pow_succ, ← Nat.div_div_eq_div_mul]; rfl
              · unfold upd
                by_cases h3 : i = 4 * k + q
                · rw [if_pos h3, h3]
                · rw [if_neg h3]; exact hG i (by omega)
              · rw [HBY.out]
            · obtain rfl : q = 4 := by omega
              clear hlt hq
              go_wp2
              refine ⟨⟨k + 1, G, by omega, by go_num, fun i hi => hG i (by omega), ?_⟩, by simp [intOf]; omega⟩
              repeat (first | exact ex_refl _ | refine ex_appR ?_ _ | refine ex_wx ?_ _ | refine ex_drew ?_ | refine ex_alloc ?_ _)
        · obtain rfl : k = 8 := by omega
          clear hlt hk
          have hR : rowB 32 G = rowB 32 (byteF S) := rowB_congr fun i hi => hG i (by omega)
          simp only [hR]
          clear hR hG
          go_wp2
          exact ret_row (cs := rowB 32 (byteF S)) Tryd.results47 Tryd.underlying75 rfl info_id rfl (by simp [go_sem]; repeat (first | rw [if_pos (by omega)] | rw [if_neg (by omega)])) rfl (post_mk (by rw [EF.out]) (by repeat (first | exact ex_refl _ | refine ex_appR ?_ _ | refine ex_drew ?_ | refine ex_alloc ?_ _ | refine ex_wx ?_ _)))
end Go.Proofs.YtpcfkjeikhehaaaDoor

/- Bytes as lists, digests: slices of both; Sum of both texts over lists. -/
set_option linter.unusedSimpArgs false
set_option linter.unusedVariables false
set_option maxRecDepth 20000
namespace Go.Proofs.YtpcfkjeikhehaaaDoor
open Go.RowKit
theorem rowB_list (l : List UInt8) : (rowB l.length (gF l)).toList = Lib.byteCells l := by
  apply List.ext_getElem?
  intro i
  rw [Array.getElem?_toList, rowB_get]
  unfold Lib.byteCells gF
  rw [List.getElem?_map, List.getD_eq_getElem?_getD]
  by_cases h : i < l.length
  · rw [if_pos h, List.getElem?_eq_getElem h]; rfl
  · rw [if_neg h, List.getElem?_eq_none (by omega)]; rfl
theorem rowB_bytes (d : Dg) : (rowB 32 (dF d)).toList = Lib.byteCells (bytesD d) := by
  rw [← rowB_list, bytesD_len]
  exact congrArg Array.toList <| rowB_congr fun i hi => by
    unfold gF bytesD; rw [List.getD_eq_getElem?_getD, List.getElem?_map, List.getElem?_range hi]; rfl
theorem sumD_row (l : List UInt8) : rowB 32 (sumF (gF l) l.length) = rowB 32 (dF (sumD l)) := rowB_congr fun i hi => (dF_ofF _ i hi).symm
/-- A slice that reads as a list of bytes. -/
def SlL (w : World) (a : Option Addr) (l : List UInt8) : Prop := SlB w a l.length (gF l)
theorem SlL.ex {w w' : World} {a : Option Addr} {l : List UInt8} (h : SlL w a l) (k : Ex w w') : SlL w' a l := SlB.ex h k
structure SlT (w : World) (v : Value) (l : List UInt8) : Prop where
  out : ∃ a c, v = .slice a l.length c ∧ l.length ≤ c ∧ c ≤ maxLen ∧ (a = none → c = 0) ∧ SlL w a l
theorem SlT.ex {w w' : World} {v : Value} {l : List UInt8} (h : SlT w v l) (k : Ex w w') : SlT w' v l := by
  obtain ⟨a, c, h1, h2, h3, h4, h5⟩ := h.out
  exact ⟨a, c, h1, h2, h3, h4, h5.ex k⟩
/-- The same, not nil. -/
structure SlS (w : World) (v : Value) (l : List UInt8) : Prop where
  out : ∃ ad c, v = .slice (some ad) l.length c ∧ l.length ≤ c ∧ c ≤ maxLen ∧ SlL w (some ad) l
theorem SlS.ex {w w' : World} {v : Value} {l : List UInt8} (h : SlS w v l) (k : Ex w w') : SlS w' v l := by
  obtain ⟨a, c, h1, h2, h3, h5⟩ := h.out
  exact ⟨a, c, h1, h2, h3, h5.ex k⟩
theorem SlS.slt {w : World} {v : Value} {l : List UInt8} (h : SlS w v l) : SlT w v l := by
  obtain ⟨a, c, h1, h2, h3, h5⟩ := h.out
  exact ⟨some a, c, h1, h2, h3, (fun h => by cases h), h5⟩
theorem owns_slt {w : World} {Z : Nat} {v : Value} {n : Nat} {l : List UInt8} (h : w.ownsRow Z 5 1 v n (Lib.byteCells l)) : SlT w v l := by
  have hn : l.length = n := by have := h.1; simpa [Lib.byteCells] using this
  subst hn
  rw [← rowB_list] at h
  obtain ⟨a, c, h1, h2, h3, h4, h5⟩ := owns_slb h
  exact ⟨a, c, h1, h2, h3, h4, h5⟩
theorem sll_news {w w' : World} {ad : Addr} {l : List UInt8} (h : SlL w (some ad) l) (k : Ex w w') : ∀ (j : Nat) (u : Value), (Lib.byteCells l)[j]? = some u → w'.cell? (ad.add j) = some u := by
  rcases h.out with h0 | ⟨g, off, h1, hg, hc⟩
  · have := List.eq_nil_of_length_eq_zero h0
    subst this; intro j u hu; simp [Lib.byteCells] at hu
  · cases h1
    rw [← rowB_list]
    exact slb_news hg hc k
theorem bytes_one (l : List UInt8) : ∀ u ∈ Lib.byteCells l, u.oneCell' = true := by
  intro u hu
  simp only [Lib.byteCells, List.mem_map] at hu
  obtain ⟨b, _, rfl⟩ := hu; rfl
theorem bytes_len (l : List UInt8) : (Lib.byteCells l).length = l.length := by simp [Lib.byteCells]
theorem bytes_app (l r : List UInt8) : Lib.byteCells l ++ Lib.byteCells r = Lib.byteCells (l ++ r) := by simp [Lib.byteCells]
/-- Cells that lie in a new block. -/
theorem sll_block {w : World} {g : Nat} {l : List UInt8} {t : TypeId} {fr : Nat × Nat} {cs : Array Value} (hb : w.heap[g]? = some (.cells cs t fr)) (hc : ∀ j, j < l.length → cs[j]? = some (B (gF l j))) : SlL w (some ⟨g, 0, none⟩) l := by
  refine SlB.mk' (Array.getElem?_eq_some_iff.1 hb).1 fun j hj => ?_
  rw [Nat.zero_add, cell_of_row _ g j _ _ _ hb, hc j hj]
theorem sls_dg {w w' : World} {g : Nat} (d : Dg) {t : TypeId} (k : Ex (w.alloc (.cells (rowB 32 (dF d)) t)) w') (hg : g = w.heap.size) : SlS w' (.slice (some ⟨g, 0, none⟩) 32 32) (bytesD d) := by
  subst hg
  refine ⟨_, 32, by rw [bytesD_len], by rw [bytesD_len]; omega, by decide, SlL.ex (sll_block (heap_alloc_new _ _) fun j hj => ?_) k⟩
  rw [bytesD_len] at hj
  rw [rowB_get, if_pos hj]
  unfold gF bytesD; rw [List.getD_eq_getElem?_getD, List.getElem?_map, List.getElem?_range hj]; rfl
theorem sls_one {w w' : World} {g : Nat} (b : UInt8) {t : TypeId} {z : Int} (k : Ex (w.alloc (.cells #[.int .u8 z] t)) w') (hg : g = w.heap.size) (hz : z = bn b) : SlS w' (.slice (some ⟨g, 0, none⟩) 1 1) [b] := by
  subst hg hz
  refine ⟨_, 1, rfl, by simp, by decide, SlL.ex (sll_block (heap_alloc_new _ _) fun j hj => ?_) k⟩
  have : j = 0 := by simpa using hj
  subst this; rfl
theorem sum_slt {w w' : World} (G : Glob w) (k : Ex w w') {v : Value} {l : List UInt8} (h : SlT w' v l) (h48 : l.length ≤ 281474976710656) :
    Calls Tryd.prog 53 #[v] w' (Post w' (.agg (rowB 32 (dF (sumD l))))) := by
  obtain ⟨a, c, rfl, h2, h3, h4, h5⟩ := h.out
  have := sum_glob G k a l.length c (gF l) h2 h3 h48 h5
  rwa [sumD_row] at this
theorem refsum_slt {w' : World} {v : Value} {l : List UInt8} (h : SlT w' v l) (h48 : l.length ≤ 281474976710656) :
    Calls Tryd.prog 47 #[v] w' (Post w' (.agg (rowB 32 (dF (sumD l))))) := by
  obtain ⟨a, c, rfl, h2, h3, h4, h5⟩ := h.out
  have := refsum_any a l.length c (gF l) w' h2 h3 h48 h5
  rwa [sumD_row] at this
theorem slt_nil (w : World) : SlT w (.slice none 0 0) [] := ⟨none, 0, rfl, by simp, by decide, fun _ => rfl, SlB.zero _ _ _⟩
/-- A list of bytes of the call's own. -/
def PostT (W : World) (l : List UInt8) (e : Ending) (w' : World) : Prop := ∃ v, e = .returned v ∧ SlT w' v l ∧ ∃ X, w' = wx W X
/-- Digests that are held against one another. -/
theorem eqD (d d' : Dg) : eqF (dF d) (dF d') 32 = decide (d = d') := by
  rw [Bool.eq_iff_iff, eqF_true, decide_eq_true_eq]
  exact ⟨dF_inj, fun h i _ => by rw [h]⟩
/-- A slice of digests. -/
structure SlD (w : World) (a : Option Addr) (l : List Dg) : Prop where
  out : l = [] ∨ ∃ g off, a = some ⟨g, off, none⟩ ∧ g < w.heap.size ∧ ∀ i d, l[i]? = some d → cellsN w g (off + i * 32) 32 = some (rowB 32 (dF d))
theorem SlD.ex {w w' : World} {a : Option Addr} {l : List Dg} (h : SlD w a l) (k : Ex w w') : SlD w' a l := by
  obtain ⟨X, rfl⟩ := k
  rcases h.out with h | ⟨g, off, h1, h2, h3⟩
  · exact ⟨Or.inl h⟩
  · refine ⟨Or.inr ⟨g, off, h1, by rw [wx_size]; omega, fun i d hd => ?_⟩⟩
    rw [cellsN_congr fun j _ => wx_cell w X _ h2]; exact h3 i d hd
theorem SlD.pos {w : World} {a : Option Addr} {l : List Dg} (h : SlD w a l) (hn : 0 < l.length) : ∃ g off, a = some ⟨g, off, none⟩ ∧ g < w.heap.size ∧ ∀ i d, l[i]? = some d → cellsN w g (off + i * 32) 32 = some (rowB 32 (dF d)) := by
  rcases h.out with rfl | h
  · simp at hn
  · exact h
theorem SlD.nil (w : World) (a : Option Addr) : SlD w a [] := ⟨Or.inl rfl⟩
theorem SlD.take {w : World} {a : Option Addr} {l : List Dg} (h : SlD w a l) (k : Nat) : SlD w a (l.take k) := by
  rcases h.out with rfl | ⟨g, off, h1, h2, h3⟩
  · exact ⟨Or.inl (by simp)⟩
  · refine ⟨Or.inr ⟨g, off, h1, h2, fun i d hd => ?_⟩⟩
    rw [List.getElem?_take] at hd
    split at hd
    · exact h3 i d hd
    · cases hd
theorem SlD.drop {w : World} {g off : Nat} {l : List Dg} (h : SlD w (some ⟨g, off, none⟩) l) (k : Nat) : SlD w (some ⟨g, off + k * 32, none⟩) (l.drop k) := by
  rcases h.out with rfl | ⟨g', off', h1, h2, h3⟩
  · exact ⟨Or.inl (by simp)⟩
  · cases h1
    refine ⟨Or.inr ⟨g, _, rfl, h2, fun i d hd => ?_⟩⟩
    rw [List.getElem?_drop] at hd
    rw [Nat.add_assoc, ← Nat.add_mul]
    exact h3 _ d hd
theorem SlS.news {w : World} {ad : Addr} {n c : Nat} {l : List UInt8} (h : SlS w (.slice (some ad) n c) l) : ∀ (j : Nat) (u : Value), (Lib.byteCells l)[j]? = some u → w.cell? (ad.add j) = some u := by
  obtain ⟨ad', c', h1, _, _, h5⟩ := h.out
  cases h1
  exact sll_news h5 (ex_refl _)
/-- append of bytes to bytes of the call's own. -/
theorem wpAppB {ops : Array Oper} {rest : List Oper} {o : Oper} {a : Act} {w : World} {Q : Exit → Act → World → Prop} (s x : Operand) (hgd : o.guard = none)
    (ho : o.op = .call { callee := .builtin .append, args := #[s, x], argTypes := #[27, 27] })
    {Z : Nat} {v vx : Value} {n : Nat} {l r : List UInt8} (hown : w.ownsRow Z 5 1 v n (Lib.byteCells l)) (hs : a.eval s = v) (hx : a.eval x = vx) (hr : SlS w vx r) (hlen : n + r.length ≤ 140737488355328) (hZ : Z ≤ w.heap.size)
    (h : ∀ v' w', w'.ownsRow Z 5 1 v' (n + r.length) (Lib.byteCells (l ++ r)) → Below Z w w' → wpList Tryd.prog ops Q rest (a.put o.dst v') w') : wpList Tryd.prog ops Q (o :: rest) a w := by
  obtain ⟨ad, c, rfl, h1, h2, h3⟩ := hr.out
  refine wpApp appu8 s x hgd ho hown hs ad r.length c (Lib.byteCells r) hx (by rw [bytes_len, Nat.mul_one]) (sll_news h3 (ex_refl _)) (bytes_one _) (by unfold maxLen; omega) (by omega) hZ fun v' w' k1 k2 => ?_
  rw [bytes_app] at k1
  exact h v' w' k1 k2
theorem SlD.at {w : World} {g off : Nat} {l : List Dg} (h : SlD w (some ⟨g, off, none⟩) l) {i : Nat} {d : Dg} (hd : l[i]? = some d) : cellsN w g (off + i * 32) 32 = some (rowB 32 (dF d)) ∧ g < w.heap.size := by
  rcases h.out with rfl | ⟨g', off', h1, h2, h3⟩
  · simp at hd
  · cases h1; exact ⟨h3 i d hd, h2⟩
end Go.Proofs.YtpcfkjeikhehaaaDoor
