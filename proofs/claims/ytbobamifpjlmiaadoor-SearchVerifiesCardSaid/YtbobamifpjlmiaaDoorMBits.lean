import Derived.Test.YtbobamifpjlmiaaDoorMTypes
import Derived.Test.YtbobamifpjlmiaaDoorMHist
import Derived.Lib.Hide
import Derived.Test.YtbobamifpjlmiaaDoorMCat

/- bits.Len; the greatest power of two below a number. -/
set_option linter.unusedSimpArgs false
set_option linter.unusedVariables false
set_option maxRecDepth 20000
namespace Go.Proofs.YtbobamifpjlmiaaDoor
open Go.RowKit
def len8 : ByteArray := ⟨#[0, 1, 2, 2, 3, 3, 3, 3, 4, 4, 4, 4, 4, 4, 4, 4, 5, 5, 5, 5, 5, 5, 5, 5, 5, 5, 5, 5, 5, 5, 5, 5, 6, 6, 6, 6, 6, 6, 6, 6, 6, 6, 6, 6, 6, 6, 6, 6, 6, 6, 6, 6, 6, 6, 6, 6, 6, 6, 6, 6, 6, 6, 6, 6, 7, 7, 7, 7, 7, 7, 7, 7, 7, 7, 7, 7, 7, 7, 7, 7, 7, 7, 7, 7, 7, 7, 7, 7, 7, 7, 7, 7, 7, 7, 7, 7, 7, 7, 7, 7, 7, 7, 7, 7, 7, 7, 7, 7, 7, 7, 7, 7, 7, 7, 7, 7, 7, 7, 7, 7, 7, 7, 7, 7, 7, 7, 7, 7, 8, 8, 8, 8, 8, 8, 8, 8, 8, 8, 8, 8, 8, 8, 8, 8, 8, 8, 8, 8, 8, 8, 8, 8, 8, 8, 8, 8, 8, 8, 8, 8, 8, 8, 8, 8, 8, 8, 8, 8, 8, 8, 8, 8, 8, 8, 8, 8, 8, 8, 8, 8, 8, 8, 8, 8, 8, 8, 8, 8, 8, 8, 8, 8, 8, 8, 8, 8, 8, 8, 8, 8, 8, 8, 8, 8, 8, 8, 8, 8, 8, 8, 8, 8, 8, 8, 8, 8, 8, 8, 8, 8, 8, 8, 8, 8, 8, 8, 8, 8, 8, 8, 8, 8, 8, 8, 8, 8, 8, 8, 8, 8, 8, 8, 8, 8, 8, 8, 8, 8, 8, 8, 8, 8, 8, 8, 8, 8]⟩
def lenI (i : Int) : Int := if i = 0 then 0 else (Nat.log2 i.toNat + 1 : Nat)
theorem len8_at (k : Nat) (h : k < 256) : ((len8.data.getD k 0).toNat : Int) = lenI k := by
  have : ∀ k : Fin 256, ((len8.data.getD k.val 0).toNat : Int) = lenI k.val := by decide +kernel
  exact this ⟨k, h⟩
@[local go_sem high] theorem index_len8 (i : Int) (w : World) : (Instr.index 9 (.string ⟨#[0, 1, 2, 2, 3, 3, 3, 3, 4, 4, 4, 4, 4, 4, 4, 4, 5, 5, 5, 5, 5, 5, 5, 5, 5, 5, 5, 5, 5, 5, 5, 5, 6, 6, 6, 6, 6, 6, 6, 6, 6, 6, 6, 6, 6, 6, 6, 6, 6, 6, 6, 6, 6, 6, 6, 6, 6, 6, 6, 6, 6, 6, 6, 6, 7, 7, 7, 7, 7, 7, 7, 7, 7, 7, 7, 7, 7, 7, 7, 7, 7, 7, 7, 7, 7, 7, 7, 7, 7, 7, 7, 7, 7, 7, 7, 7, 7, 7, 7, 7, 7, 7, 7, 7, 7, 7, 7, 7, 7, 7, 7, 7, 7, 7, 7, 7, 7, 7, 7, 7, 7, 7, 7, 7, 7, 7, 7, 7, 8, 8, 8, 8, 8, 8, 8, 8, 8, 8, 8, 8, 8, 8, 8, 8, 8, 8, 8, 8, 8, 8, 8, 8, 8, 8, 8, 8, 8, 8, 8, 8, 8, 8, 8, 8, 8, 8, 8, 8, 8, 8, 8, 8, 8, 8, 8, 8, 8, 8, 8, 8, 8, 8, 8, 8, 8, 8, 8, 8, 8, 8, 8, 8, 8, 8, 8, 8, 8, 8, 8, 8, 8, 8, 8, 8, 8, 8, 8, 8, 8, 8, 8, 8, 8, 8, 8, 8, 8, 8, 8, 8, 8, 8, 8, 8, 8, 8, 8, 8, 8, 8, 8, 8, 8, 8, 8, 8, 8, 8, 8, 8, 8, 8, 8, 8, 8, 8, 8, 8, 8, 8, 8, 8, 8, 8, 8, 8]⟩) (.int .u8 i)).run Tryd.prog w = if 0 ≤ i ∧ i < 256 then .ok (.int .u8 (lenI i)) w else idxRaw Tryd.prog 9 (.string len8) (.int .u8 i) w := by
  show (Instr.index 9 (.string len8) (.int .u8 i)).run Tryd.prog w = _
  split
  · rename_i h
    have hs : len8.size = 256 := by decide +kernel
    rw [run_index_string w 9 len8 .u8 i Tryd.underlying9, dif_pos (by rw [hs]; exact h)]
    have h2 := len8_at i.toNat (by omega)
    rw [Int.toNat_of_nonneg h.1] at h2
    rw [← h2]
    congr 2
    rw [Array.getD_eq_getD_getElem?, Array.getElem?_eq_getElem (show i.toNat < len8.data.size from by have : len8.data.size = 256 := hs; omega)]
    rfl
  · rfl
theorem log2_256 {n : Nat} (h : 256 ≤ n) : Nat.log2 n = Nat.log2 (n / 256) + 8 := by
  have h1 := Nat.log2_self_le (n := n / 256) (by omega)
  have h2 := Nat.lt_log2_self (n := n / 256)
  rw [Nat.log2_eq_iff (by omega)]
  generalize Nat.log2 (n / 256) = k at h1 h2
  rw [show k + 8 + 1 = (k + 1) + 8 by omega, Nat.pow_add 2 k 8, Nat.pow_add 2 (k + 1) 8]
  omega
theorem log2_lt {n k : Nat} (h : n < 2 ^ k) (h0 : 0 < n) : Nat.log2 n < k := by
  rw [Nat.log2_lt (by omega)]; exact h
theorem len64_any (n : Nat) (h1 : 1 ≤ n) (h : n < 65536) (w : World) :
    Calls Tryd.prog 109 #[.int .u64 (n : Int)] w fun e w' => e = .returned (I (Nat.log2 n + 1 : Nat)) ∧ w = w' := by
  have hl : Nat.log2 n < 16 := log2_lt h (by omega)
  have e1 : ¬ (4294967296 : Int) ≤ n := by omega
  have e2 : ¬ (65536 : Int) ≤ n := by omega
  by_cases h8 : 256 ≤ n
  · have e3 : (256 : Int) ≤ n := by omega
    have hq := log2_256 h8
    have e4 : lenI ((n : Int) / 256) = (Nat.log2 n - 7 : Nat) := by
      unfold lenI
      rw [if_neg (by omega), show ((n : Int) / 256).toNat = n / 256 by omega, hq]; omega
    have e5 : (n : Int) / 256 < 256 := by omega
    have e6 : 0 ≤ (n : Int) / 256 := by omega
    have e7 : (n : Int) / 256 % 256 = (n : Int) / 256 := by omega
    have HL : Hid (8 ≤ Nat.log2 n) := Lib.hid (by omega)
    clear hq
    go_enter Tryd.func109, Tryd.ntmps109
    go_wp2
    go_ret
    refine ⟨?_, rfl⟩
    have := HL.out
    go_num
  · have e3 : ¬ (256 : Int) ≤ n := by omega
    have e4 : lenI (n : Int) = (Nat.log2 n + 1 : Nat) := by
      unfold lenI
      rw [if_neg (by omega), Int.toNat_natCast]
    have e5 : (n : Int) % 256 = n := by omega
    have e6 : (n : Int) < 256 := by omega
    go_enter Tryd.func109, Tryd.ntmps109
    go_wp2
    go_ret
    refine ⟨?_, rfl⟩
    go_num
theorem len_any (n : Nat) (h1 : 1 ≤ n) (h : n < 65536) (w : World) :
    Calls Tryd.prog 93 #[.int .u64 (n : Int)] w fun e w' => e = .returned (I (Nat.log2 n + 1 : Nat)) ∧ w = w' := by
  go_enter Tryd.func93, Tryd.ntmps93
  go_wp2_with (go_at_call 109; refine (len64_any n h1 h _).mono ?_; rintro e w' ⟨rfl, rfl⟩)
  go_ret
  exact ⟨rfl, rfl⟩
theorem split_any (n : Nat) (h1 : 2 ≤ n) (h : n < 65536) (w : World) :
    Calls Tryd.prog 64 #[I n] w fun e w' => e = .returned (I (splitN n)) ∧ w = w' := by
  have hl : Nat.log2 (n - 1) < 16 := log2_lt (by omega) (by omega)
  go_enter Tryd.func64, Tryd.ntmps64
  have e1 : ((n : Int) - 1) = ((n - 1 : Nat) : Int) := by omega
  go_wp2_with (go_at_call 93; refine (len_any (n - 1) (by omega) (by omega) _).mono ?_; rintro e w' ⟨rfl, rfl⟩)
  go_ret
  have hp : (2 : Nat) ^ (n - 1).log2 < 65536 := Nat.pow_lt_pow_right (by omega) hl
  have hp2 : ((2 : Int) ^ (n - 1).log2) = ((2 ^ (n - 1).log2 : Nat) : Int) := by simp
  refine ⟨?_, rfl⟩
  unfold splitN
  show Ending.returned (.int .i64 (wrap64 (2 ^ (n - 1).log2))) = _
  rw [hp2]
  generalize 2 ^ (n - 1).log2 = q at hp ⊢
  rw [show wrap64 (q : Int) = q by unfold wrap64; omega]
/-- The greatest power of two below, or nothing. -/
def SplitN (n : Int) : Nat := if n < 2 ∨ 1024 < n then 0 else splitN n.toNat
theorem SplitN_in {n : Nat} (h1 : 2 ≤ n) (h2 : n ≤ 1024) : SplitN n = splitN n := by
  unfold SplitN; rw [if_neg (by omega), Int.toNat_natCast]
theorem Split_any (n : Int) (w : World) : Calls Tryd.prog 28 #[I n] w fun e w' => e = .returned (I (SplitN n)) ∧ w = w' := by
  by_cases h1 : n < 2
  · have hs : SplitN n = 0 := by unfold SplitN; rw [if_pos (Or.inl h1)]
    rw [hs]
    go_enter Tryd.func28, Tryd.ntmps28
    go_wp2
    go_ret
    exact ⟨rfl, rfl⟩
  · by_cases h2 : 1024 < n
    · have hs : SplitN n = 0 := by unfold SplitN; rw [if_pos (Or.inr h2)]
      rw [hs]
      go_enter Tryd.func28, Tryd.ntmps28
      go_wp2
      go_ret
      exact ⟨rfl, rfl⟩
    · obtain ⟨m, rfl⟩ : ∃ m : Nat, n = m := ⟨n.toNat, by omega⟩
      rw [SplitN_in (by omega) (by omega)]
      go_enter Tryd.func28, Tryd.ntmps28
      go_wp2_with (go_at_call 64; refine (split_any m (by omega) (by omega) _).mono ?_; rintro e w' ⟨rfl, rfl⟩)
      go_ret
      exact ⟨rfl, rfl⟩
theorem refSplit_any (n : Int) (w : World) : Calls Tryd.prog 29 #[I n] w fun e w' => e = .returned (I (SplitN n)) ∧ w = w' := by
  by_cases h1 : n < 2
  · have hs : SplitN n = 0 := by unfold SplitN; rw [if_pos (Or.inl h1)]
    rw [hs]
    go_enter Tryd.func29, Tryd.ntmps29
    go_wp2
    go_ret
    exact ⟨rfl, rfl⟩
  · by_cases h2 : 1024 < n
    · have hs : SplitN n = 0 := by unfold SplitN; rw [if_pos (Or.inr h2)]
      rw [hs]
      go_enter Tryd.func29, Tryd.ntmps29
      go_wp2
      go_ret
      exact ⟨rfl, rfl⟩
    · obtain ⟨m, rfl⟩ : ∃ m : Nat, n = m := ⟨n.toNat, by omega⟩
      rw [SplitN_in (by omega) (by omega)]
      go_enter Tryd.func29, Tryd.ntmps29
      go_wp2
      go_loopw [3] (fun i wr => ∃ q : Nat, 1 ≤ q ∧ q < m ∧ i = I q ∧ Hid (∃ j, q = 2 ^ j) ∧ wr = w) (fun i _ => m - (intOf i).toNat)
      case atStart => exact ⟨1, by omega, by omega, rfl, Lib.hid ⟨0, rfl⟩, rfl⟩
      case round =>
        obtain ⟨q, hq1, hq2, rfl, hj, rfl⟩ := hrel
        by_cases hlt : 2 * q < m
        · have hlt' : 2 * (q : Int) < m := by omega
          go_wp2
          refine ⟨⟨2 * q, by omega, hlt, by go_num, ?_, by trivial⟩, by simp [intOf]; omega⟩
          obtain ⟨j, rfl⟩ := hj.out
          exact Lib.hid ⟨j + 1, by rw [Nat.pow_succ]; omega⟩
        · have hlt' : ¬ 2 * (q : Int) < m := by omega
          go_wp2
          go_ret
          refine ⟨?_, by trivial⟩
          obtain ⟨j, rfl⟩ := hj.out
          rw [split_uniq hq2 (by omega)]
          rfl
end Go.Proofs.YtbobamifpjlmiaaDoor

/- Roots of both texts. -/
set_option linter.unusedSimpArgs false
set_option linter.unusedVariables false
set_option maxRecDepth 20000
namespace Go.Proofs.YtbobamifpjlmiaaDoor
open Go.RowKit
set_option maxHeartbeats 1000000 in
theorem root_any (N : Nat) : ∀ (l : List Dg) (a : Option Addr) (c : Nat) (w : World), l.length = N → N ≤ 1024 → N ≤ c → c ≤ maxLen → SlD w a l → Glob w →
    Calls Tryd.prog 63 #[.slice a N c] w (Post w (.agg (rowB 32 (dF (rootD l))))) := by
  induction N using Nat.strongRecOn with
  | ind N ih =>
    intro l a c w hl hN hc hcm hs G
    unfold maxLen at hcm
    rcases Nat.lt_or_ge N 2 with h2 | h2
    · have h01 : N = 0 ∨ N = 1 := by omega
      rcases h01 with rfl | rfl
      · obtain rfl := List.eq_nil_of_length_eq_zero hl
        rw [root_nil]
        go_enter Tryd.func63, Tryd.ntmps63
        go_wp2_with (go_at_call 66; refine (sum_slt G (by (try show Ex _ _); repeat (first | (with_reducible exact ex_refl _) | (with_reducible assumption) | (with_reducible refine ex_drewL ?_) | (with_reducible refine ex_appR ?_ _) | (with_reducible refine ex_wx ?_ _) | (with_reducible refine ex_drew ?_) | (with_reducible refine ex_alloc ?_ _))) (slt_nil _) (by simp)).mono ?_; rintro e w2 ⟨rfl, X, rfl⟩)
        exact ret_row (cs := rowB 32 (dF (sumD []))) Tryd.results63 Tryd.underlying26 rfl info_id rfl (by simp [go_sem]) rfl (post_mk rfl (by (try show Ex _ _); repeat (first | (with_reducible exact ex_refl _) | (with_reducible assumption) | (with_reducible refine ex_drewL ?_) | (with_reducible refine ex_appR ?_ _) | (with_reducible refine ex_wx ?_ _) | (with_reducible refine ex_drew ?_) | (with_reducible refine ex_alloc ?_ _))))
      · obtain ⟨x, rfl⟩ := List.length_eq_one_iff.1 hl
        rw [root_one]
        obtain ⟨g, off, rfl, hg, hcell⟩ := hs.pos (by simp)
        have h1 := hcell 0 x rfl
        clear hcell ih
        rw [Nat.zero_mul, Nat.add_zero] at h1
        go_enter Tryd.func63, Tryd.ntmps63
        go_wp2
        exact ret_row (cs := rowB 32 (dF x)) Tryd.results63 Tryd.underlying26 rfl info_id rfl (by simp [go_sem]) rfl (post_mk rfl (by (try show Ex _ _); repeat (first | (with_reducible exact ex_refl _) | (with_reducible assumption) | (with_reducible refine ex_drewL ?_) | (with_reducible refine ex_appR ?_ _) | (with_reducible refine ex_wx ?_ _) | (with_reducible refine ex_drew ?_) | (with_reducible refine ex_alloc ?_ _))))
    · have hk1 := split_lt (n := N) h2
      have hk2 := split_pos N
      have hr := root_two (l := l) (by omega)
      rw [hl] at hr
      rw [hr]
      clear hr
      obtain ⟨g, off, rfl, hg, hcell⟩ := hs.pos (by omega)
      clear hcell
      have HT : Hid (∀ w', Ex w w' → Calls Tryd.prog 63 #[.slice (some ⟨g, off, none⟩) (splitN N) c] w' (Post w' (.agg (rowB 32 (dF (rootD (l.take (splitN N)))))))) :=
        Lib.hid fun w' k => ih _ hk1 _ _ c w' (by rw [List.length_take]; omega) (by omega) (by omega) (by unfold maxLen; omega) ((hs.take _).ex k) (G.ex k)
      have HD : Hid (∀ w', Ex w w' → Calls Tryd.prog 63 #[.slice (some ⟨g, off + splitN N * 32, none⟩) (N - splitN N) (c - splitN N)] w' (Post w' (.agg (rowB 32 (dF (rootD (l.drop (splitN N)))))))) :=
        Lib.hid fun w' k => ih _ (by omega) _ _ _ w' (by rw [List.length_drop]; omega) (by omega) (by omega) (by unfold maxLen; omega) ((hs.drop _).ex k) (G.ex k)
      have HN : Hid (∀ w', Ex w w' → Calls Tryd.prog 24 #[.agg (rowB 32 (dF (rootD (l.take (splitN N))))), .agg (rowB 32 (dF (rootD (l.drop (splitN N)))))] w' (Post w' (.agg (rowB 32 (dF (nodeD (rootD (l.take (splitN N))) (rootD (l.drop (splitN N))))))))) :=
        Lib.hid fun w' k => node_any G _ _ w' k
      have HS := Lib.hid (split_any N h2 (by omega))
      generalize nodeD (rootD (l.take (splitN N))) (rootD (l.drop (splitN N))) = z at HN ⊢
      generalize rootD (l.take (splitN N)) = x at HT HN
      generalize rootD (l.drop (splitN N)) = y at HD HN
      generalize splitN N = k at hk1 hk2 HT HD HS
      have e0 : ((N : Int) == 0) = false := beq_eq_false_iff_ne.2 (by omega)
      have e1 : ((N : Int) == 1) = false := beq_eq_false_iff_ne.2 (by omega)
      have e2 : (k : Int) ≤ N := by omega
      have e3 : (k : Int) ≤ c := by omega
      have e4 : ¬ c = k := by omega
      have e5 : (N : Int) ≤ c := by omega
      clear ih hs hl h2 hN
      go_enter Tryd.func63, Tryd.ntmps63
      go_wp2_with (go_at_call 64; refine (HS.out _).mono ?_; rintro e w' ⟨rfl, rfl⟩)
      refine wp_region_mix [(0, true), (1, true), (2, true), (4, true), (5, true), (6, true), (3, false), (7, false), (8, false)] 9 (by kernel_rfl) (by kernel_rfl) (fun _ _ d _ _ h => by cases d <;> exact h) ?_
      simp only [List.map_cons, List.map_nil, nth, List.drop_succ_cons, List.drop_zero]
      repeat (first | (refine wpMix_look ?_; go_big_quiet_step (fail); refine wpQuiet_nil ?_) | (refine wpMix_eff rfl (fun X1 => ?_); go_wp2_with (first | (go_at_call 63; (with_reducible refine (HT.out _ (by (try show Ex _ _); repeat (first | (with_reducible exact ex_refl _) | (with_reducible assumption) | (with_reducible refine ex_drewL ?_) | (with_reducible refine ex_appR ?_ _) | (with_reducible refine ex_wx ?_ _) | (with_reducible refine ex_drew ?_) | (with_reducible refine ex_alloc ?_ _)))).mono ?_); rintro e w2 ⟨rfl, X, rfl⟩) | (go_at_call 63; (with_reducible refine (HD.out _ (by (try show Ex _ _); repeat (first | (with_reducible exact ex_refl _) | (with_reducible assumption) | (with_reducible refine ex_drewL ?_) | (with_reducible refine ex_appR ?_ _) | (with_reducible refine ex_wx ?_ _) | (with_reducible refine ex_drew ?_) | (with_reducible refine ex_alloc ?_ _)))).mono ?_); rintro e w2 ⟨rfl, X, rfl⟩) | (go_at_call 24; (with_reducible refine (HN.out _ (by (try show Ex _ _); repeat (first | (with_reducible exact ex_refl _) | (with_reducible assumption) | (with_reducible refine ex_drewL ?_) | (with_reducible refine ex_appR ?_ _) | (with_reducible refine ex_wx ?_ _) | (with_reducible refine ex_drew ?_) | (with_reducible refine ex_alloc ?_ _)))).mono ?_); rintro e w2 ⟨rfl, X, rfl⟩)); refine mixQ_mk (by first | exact ex_refl _ | exact ⟨_, rfl⟩ | exact ex_app _ _ _ | (simp only [wx_wx, wx_drew]; first | exact ex_refl _ | exact ex_app _ _ _ | exact ⟨_, rfl⟩) | (repeat (first | exact ex_refl _ | refine ex_drew ?_ | refine ex_alloc ?_ _ | refine ex_wx ?_ _))) ?_))
      refine wpMix_nil (fun X2 => ?_)
      go_wp2
      exact ret_row (cs := rowB 32 (dF z)) Tryd.results63 Tryd.underlying26 rfl info_id rfl (by simp [go_sem]) rfl (post_mk rfl (by (try show Ex _ _); repeat (first | (with_reducible exact ex_refl _) | (with_reducible assumption) | (with_reducible refine ex_drewL ?_) | (with_reducible refine ex_appR ?_ _) | (with_reducible refine ex_wx ?_ _) | (with_reducible refine ex_drew ?_) | (with_reducible refine ex_alloc ?_ _))))
set_option maxHeartbeats 1000000 in
theorem refroot_any (N : Nat) : ∀ (l : List Dg) (a : Option Addr) (c : Nat) (w : World), l.length = N → N ≤ 1024 → N ≤ c → c ≤ maxLen → SlD w a l →
    Calls Tryd.prog 20 #[.slice a N c] w (Post w (.agg (rowB 32 (dF (rootD l))))) := by
  induction N using Nat.strongRecOn with
  | ind N ih =>
    intro l a c w hl hN hc hcm hs
    unfold maxLen at hcm
    rcases Nat.lt_or_ge N 2 with h2 | h2
    · have h01 : N = 0 ∨ N = 1 := by omega
      rcases h01 with rfl | rfl
      · obtain rfl := List.eq_nil_of_length_eq_zero hl
        rw [root_nil]
        go_enter Tryd.func20, Tryd.ntmps20
        go_wp2_with (go_at_call 53; refine (refsum_slt (slt_nil _) (by simp)).mono ?_; rintro e w2 ⟨rfl, X, rfl⟩)
        exact ret_row (cs := rowB 32 (dF (sumD []))) Tryd.results20 Tryd.underlying26 rfl info_id rfl (by simp [go_sem]) rfl (post_mk rfl (by (try show Ex _ _); repeat (first | (with_reducible exact ex_refl _) | (with_reducible assumption) | (with_reducible refine ex_drewL ?_) | (with_reducible refine ex_appR ?_ _) | (with_reducible refine ex_wx ?_ _) | (with_reducible refine ex_drew ?_) | (with_reducible refine ex_alloc ?_ _))))
      · obtain ⟨x, rfl⟩ := List.length_eq_one_iff.1 hl
        rw [root_one]
        obtain ⟨g, off, rfl, hg, hcell⟩ := hs.pos (by simp)
        have h1 := hcell 0 x rfl
        clear hcell ih
        rw [Nat.zero_mul, Nat.add_zero] at h1
        go_enter Tryd.func20, Tryd.ntmps20
        go_wp2
        exact ret_row (cs := rowB 32 (dF x)) Tryd.results20 Tryd.underlying26 rfl info_id rfl (by simp [go_sem]) rfl (post_mk rfl (by (try show Ex _ _); repeat (first | (with_reducible exact ex_refl _) | (with_reducible assumption) | (with_reducible refine ex_drewL ?_) | (with_reducible refine ex_appR ?_ _) | (with_reducible refine ex_wx ?_ _) | (with_reducible refine ex_drew ?_) | (with_reducible refine ex_alloc ?_ _))))
    · have hk1 := split_lt (n := N) h2
      have hk2 := split_pos N
      have hr := root_two (l := l) (by omega)
      rw [hl] at hr
      rw [hr]
      clear hr
      obtain ⟨g, off, rfl, hg, hcell⟩ := hs.pos (by omega)
      clear hcell
      have HT : Hid (∀ w', Ex w w' → Calls Tryd.prog 20 #[.slice (some ⟨g, off, none⟩) (splitN N) c] w' (Post w' (.agg (rowB 32 (dF (rootD (l.take (splitN N)))))))) :=
        Lib.hid fun w' k => ih _ hk1 _ _ c w' (by rw [List.length_take]; omega) (by omega) (by omega) (by unfold maxLen; omega) ((hs.take _).ex k)
      have HD : Hid (∀ w', Ex w w' → Calls Tryd.prog 20 #[.slice (some ⟨g, off + splitN N * 32, none⟩) (N - splitN N) (c - splitN N)] w' (Post w' (.agg (rowB 32 (dF (rootD (l.drop (splitN N)))))))) :=
        Lib.hid fun w' k => ih _ (by omega) _ _ _ w' (by rw [List.length_drop]; omega) (by omega) (by omega) (by unfold maxLen; omega) ((hs.drop _).ex k)
      have HN : Hid (∀ w', Ex w w' → Calls Tryd.prog 25 #[.agg (rowB 32 (dF (rootD (l.take (splitN N))))), .agg (rowB 32 (dF (rootD (l.drop (splitN N)))))] w' (Post w' (.agg (rowB 32 (dF (nodeD (rootD (l.take (splitN N))) (rootD (l.drop (splitN N))))))))) :=
        Lib.hid fun w' k => refnode_any _ _ w'
      have HS := Lib.hid (show ∀ w, Calls Tryd.prog 29 #[I N] w (fun e w' => e = .returned (I (splitN N)) ∧ w = w') from fun w => by have := refSplit_any N w; rwa [SplitN_in h2 hN] at this)
      generalize nodeD (rootD (l.take (splitN N))) (rootD (l.drop (splitN N))) = z at HN ⊢
      generalize rootD (l.take (splitN N)) = x at HT HN
      generalize rootD (l.drop (splitN N)) = y at HD HN
      generalize splitN N = k at hk1 hk2 HT HD HS
      have e0 : ((N : Int) == 0) = false := beq_eq_false_iff_ne.2 (by omega)
      have e1 : ((N : Int) == 1) = false := beq_eq_false_iff_ne.2 (by omega)
      have e2 : (k : Int) ≤ N := by omega
      have e3 : (k : Int) ≤ c := by omega
      have e4 : ¬ c = k := by omega
      have e5 : (N : Int) ≤ c := by omega
      clear ih hs hl h2 hN
      go_enter Tryd.func20, Tryd.ntmps20
      go_wp2_with (go_at_call 29; refine (HS.out _).mono ?_; rintro e w' ⟨rfl, rfl⟩)
      refine wp_region_mix [(0, true), (1, true), (2, true), (4, true), (5, true), (6, true), (3, false), (7, false), (8, false)] 9 (by kernel_rfl) (by kernel_rfl) (fun _ _ d _ _ h => by cases d <;> exact h) ?_
      simp only [List.map_cons, List.map_nil, nth, List.drop_succ_cons, List.drop_zero]
      repeat (first | (refine wpMix_look ?_; go_big_quiet_step (fail); refine wpQuiet_nil ?_) | (refine wpMix_eff rfl (fun X1 => ?_); go_wp2_with (first | (go_at_call 20; (with_reducible refine (HT.out _ (by (try show Ex _ _); repeat (first | (with_reducible exact ex_refl _) | (with_reducible assumption) | (with_reducible refine ex_drewL ?_) | (with_reducible refine ex_appR ?_ _) | (with_reducible refine ex_wx ?_ _) | (with_reducible refine ex_drew ?_) | (with_reducible refine ex_alloc ?_ _)))).mono ?_); rintro e w2 ⟨rfl, X, rfl⟩) | (go_at_call 20; (with_reducible refine (HD.out _ (by (try show Ex _ _); repeat (first | (with_reducible exact ex_refl _) | (with_reducible assumption) | (with_reducible refine ex_drewL ?_) | (with_reducible refine ex_appR ?_ _) | (with_reducible refine ex_wx ?_ _) | (with_reducible refine ex_drew ?_) | (with_reducible refine ex_alloc ?_ _)))).mono ?_); rintro e w2 ⟨rfl, X, rfl⟩) | (go_at_call 25; (with_reducible refine (HN.out _ (by (try show Ex _ _); repeat (first | (with_reducible exact ex_refl _) | (with_reducible assumption) | (with_reducible refine ex_drewL ?_) | (with_reducible refine ex_appR ?_ _) | (with_reducible refine ex_wx ?_ _) | (with_reducible refine ex_drew ?_) | (with_reducible refine ex_alloc ?_ _)))).mono ?_); rintro e w2 ⟨rfl, X, rfl⟩)); refine mixQ_mk (by first | exact ex_refl _ | exact ⟨_, rfl⟩ | exact ex_app _ _ _ | (simp only [wx_wx, wx_drew]; first | exact ex_refl _ | exact ex_app _ _ _ | exact ⟨_, rfl⟩) | (repeat (first | exact ex_refl _ | refine ex_drew ?_ | refine ex_alloc ?_ _ | refine ex_wx ?_ _))) ?_))
      refine wpMix_nil (fun X2 => ?_)
      go_wp2
      exact ret_row (cs := rowB 32 (dF z)) Tryd.results20 Tryd.underlying26 rfl info_id rfl (by simp [go_sem]) rfl (post_mk rfl (by (try show Ex _ _); repeat (first | (with_reducible exact ex_refl _) | (with_reducible assumption) | (with_reducible refine ex_drewL ?_) | (with_reducible refine ex_appR ?_ _) | (with_reducible refine ex_wx ?_ _) | (with_reducible refine ex_drew ?_) | (with_reducible refine ex_alloc ?_ _))))
end Go.Proofs.YtbobamifpjlmiaaDoor
