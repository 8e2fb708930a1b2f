import Derived.Test.YtcdocklbpfdmeaaDoorMWords
import Derived.Test.YtcdocklbpfdmeaaDoorMMix
import Derived.Lib.Hide
import Derived.Test.YtcdocklbpfdmeaaDoorMSeq
import Derived.Test.YtcdocklbpfdmeaaDoorMOwn

/- bits.Len; the greatest power of two below a number. -/
set_option linter.unusedSimpArgs false
set_option linter.unusedVariables false
set_option maxRecDepth 20000
namespace Go.Proofs.YtcdocklbpfdmeaaDoor
open Go.RowKit
def len8 : ByteArray := ⟨#[0, 1, 2, 2, 3, 3, 3, 3, 4, 4, 4, 4, 4, 4, 4, 4, 5, 5, 5, 5, 5, 5, 5, 5, 5, 5, 5, 5, 5, 5, 5, 5, 6, 6, 6, 6, 6, 6, 6, 6, 6, 6, 6, 6, 6, 6, 6, 6, 6, 6, 6, 6, 6, 6, 6, 6, 6, 6, 6, 6, 6, 6, 6, 6, 7, 7, 7, 7, 7, 7, 7, 7, 7, 7, 7, 7, 7, 7, 7, 7, 7, 7, 7, 7, 7, 7, 7, 7, 7, 7, 7, 7, 7, 7, 7, 7, 7, 7, 7, 7, 7, 7, 7, 7, 7, 7, 7, 7, 7, 7, 7, 7, 7, 7, 7, 7, 7, 7, 7, 7, 7, 7, 7, 7, 7, 7, 7, 7, 8, 8, 8, 8, 8, 8, 8, 8, 8, 8, 8, 8, 8, 8, 8, 8, 8, 8, 8, 8, 8, 8, 8, 8, 8, 8, 8, 8, 8, 8, 8, 8, 8, 8, 8, 8, 8, 8, 8, 8, 8, 8, 8, 8, 8, 8, 8, 8, 8, 8, 8, 8, 8, 8, 8, 8, 8, 8, 8, 8, 8, 8, 8, 8, 8, 8, 8, 8, 8, 8, 8, 8, 8, 8, 8, 8, 8, 8, 8, 8, 8, 8, 8, 8, 8, 8, 8, 8, 8, 8, 8, 8, 8, 8, 8, 8, 8, 8, 8, 8, 8, 8, 8, 8, 8, 8, 8, 8, 8, 8, 8, 8, 8, 8, 8, 8, 8, 8, 8, 8, 8, 8, 8, 8, 8, 8, 8, 8]⟩
def lenI (i : Int) : Int := if i = 0 then 0 else (Nat.log2 i.toNat + 1 : Nat)
theorem len8_at (k : Nat) (h : k < 256) : ((len8.data.getD k 0).toNat : Int) = lenI k := by
  have : ∀ k : Fin 256, ((len8.data.getD k.val 0).toNat : Int) = lenI k.val := by decide +kernel
  exact this ⟨k, h⟩
@[local go_sem high] theorem index_len8 (i : Int) (w : World) : (Instr.index 9 (.string ⟨#[0, 1, 2, 2, 3, 3, 3, 3, 4, 4, 4, 4, 4, 4, 4, 4, 5, 5, 5, 5, 5, 5, 5, 5, 5, 5, 5, 5, 5, 5, 5, 5, 6, 6, 6, 6, 6, 6, 6, 6, 6, 6, 6, 6, 6, 6, 6, 6, 6, 6, 6, 6, 6, 6, 6, 6, 6, 6, 6, 6, 6, 6, 6, 6, 7, 7, 7, 7, 7, 7, 7, 7, 7, 7, 7, 7, 7, 7, 7, 7, 7, 7, 7, 7, 7, 7, 7, 7, 7, 7, 7, 7, 7, 7, 7, 7, 7, 7, 7, 7, 7, 7, 7, 7, 7, 7, 7, 7, 7, 7, 7, 7, 7, 7, 7, 7, 7, 7, 7, 7, 7, 7, 7, 7, 7, 7, 7, 7, 8, 8, 8, 8, 8, 8, 8, 8, 8, 8, 8, 8, 8, 8, 8, 8, 8, 8, 8, 8, 8, 8, 8, 8, 8, 8, 8, 8, 8, 8, 8, 8, 8, 8, 8, 8, 8, 8, 8, 8, 8, 8, 8, 8, 8, 8, 8, 8, 8, 8, 8, 8, 8, 8, 8, 8, 8, 8, 8, 8, 8, 8, 8, 8, 8, 8, 8, 8, 8, 8, 8, 8, 8, 8, 8, 8, 8, 8, 8, 8, 8, 8, 8, 8, 8, 8, 8, 8, 8, 8, 8, 8, 8, 8, 8, 8, 8, 8, 8, 8, 8, 8, 8, 8, 8, 8, 8, 8, 8, 8, 8, 8, 8, 8, 8, 8, 8, 8, 8, 8, 8, 8, 8, 8, 8, 8, 8, 8]⟩) (.int .u8 i)).run Tryd.prog w = if 0 ≤ i ∧ i < 256 then .ok (.int .u8 (lenI i)) w else idxRaw Tryd.prog 9 (.string len8) (.int .u8 i) w := by
  show (Instr.index 9 (.string len8) (.int .u8 i)).run Tryd.prog w = _
  split
  · rename_i h
    have hs : len8.size = 256 := by decide +kernel
    rw [run_index_string w 9 len8 .u8 i Tryd.underlying9, dif_pos (by rw [hs]; exact h)]
    have h2 := len8_at i.toNat (by omega)
    rw [Int.toNat_of_nonneg h.1] at h2
    rw [← h2]
    congr 2
    rw [Array.getD_eq_getD_getElem?, Array.getElem?_eq_getElem (show i.toNat < len8.data.size from by have : len8.data.size = 256 := hs; omega)]
    rfl
  · rfl
theorem log2_256 {n : Nat} (h : 256 ≤ n) : Nat.log2 n = Nat.log2 (n / 256) + 8 := by
  have h1 := Nat.log2_self_le (n := n / 256) (by omega)
  have h2 := Nat.lt_log2_self (n := n / 256)
  rw [Nat.log2_eq_iff (by omega)]
  generalize Nat.log2 (n / 256) = k at h1 h2
  rw [show k + 8 + 1 = (k + 1) + 8 by omega, Nat.pow_add 2 k 8, Nat.pow_add 2 (k + 1) 8]
  omega
theorem log2_lt {n k : Nat} (h : n < 2 ^ k) (h0 : 0 < n) : Nat.log2 n < k := by
  rw [Nat.log2_lt (by omega)]; exact h
theorem len64_any (n : Nat) (h1 : 1 ≤ n) (h : n < 65536) (w : World) :
    Calls Tryd.prog 147 #[.int .u64 (n : Int)] w fun e w' => e = .returned (I (Nat.log2 n + 1 : Nat)) ∧ w = w' := by
  have hl : Nat.log2 n < 16 := log2_lt h (by omega)
  have e1 : ¬ (4294967296 : Int) ≤ n := by omega
  have e2 : ¬ (65536 : Int) ≤ n := by omega
  by_cases h8 : 256 ≤ n
  · have e3 : (256 : Int) ≤ n := by omega
    have hq := log2_256 h8
    have e4 : lenI ((n : Int) / 256) = (Nat.log2 n - 7 : Nat) := by
      unfold lenI
      rw [if_neg (by omega), show ((n : Int) / 256).toNat = n / 256 by omega, hq]; omega
    have e5 : (n : Int) / 256 < 256 := by omega
    have e6 : 0 ≤ (n : Int) / 256 := by omega
    have e7 : (n : Int) / 256 % 256 = (n : Int) / 256 := by omega
    have HL : Hid (8 ≤ Nat.log2 n) := Lib.hid (by omega)
    clear hq
    go_enter Tryd.func147, Tryd.ntmps147
    go_wp2
    go_ret
    refine ⟨?_, rfl⟩
    have := HL.out
    go_num
  · have e3 : ¬ (256 : Int) ≤ n := by omega
    have e4 : lenI (n : Int) = (Nat.log2 n + 1 : Nat) := by
      unfold lenI
      rw [if_neg (by omega), Int.toNat_natCast]
    have e5 : (n : Int) % 256 = n := by omega
    have e6 : (n : Int) < 256 := by omega
    go_enter Tryd.func147, Tryd.ntmps147
    go_wp2
    go_ret
    refine ⟨?_, rfl⟩
    go_num
theorem len_any (n : Nat) (h1 : 1 ≤ n) (h : n < 65536) (w : World) :
    Calls Tryd.prog 127 #[.int .u64 (n : Int)] w fun e w' => e = .returned (I (Nat.log2 n + 1 : Nat)) ∧ w = w' := by
  go_enter Tryd.func127, Tryd.ntmps127
  go_wp2_with (go_at_call 147; refine (len64_any n h1 h _).mono ?_; rintro e w' ⟨rfl, rfl⟩)
  go_ret
  exact ⟨rfl, rfl⟩
theorem split_any (n : Nat) (h1 : 2 ≤ n) (h : n < 65536) (w : World) :
    Calls Tryd.prog 87 #[I n] w fun e w' => e = .returned (I (splitN n)) ∧ w = w' := by
  have hl : Nat.log2 (n - 1) < 16 := log2_lt (by omega) (by omega)
  go_enter Tryd.func87, Tryd.ntmps87
  have e1 : ((n : Int) - 1) = ((n - 1 : Nat) : Int) := by omega
  go_wp2_with (go_at_call 127; refine (len_any (n - 1) (by omega) (by omega) _).mono ?_; rintro e w' ⟨rfl, rfl⟩)
  go_ret
  have hp : (2 : Nat) ^ (n - 1).log2 < 65536 := Nat.pow_lt_pow_right (by omega) hl
  have hp2 : ((2 : Int) ^ (n - 1).log2) = ((2 ^ (n - 1).log2 : Nat) : Int) := by simp
  refine ⟨?_, rfl⟩
  unfold splitN
  show Ending.returned (.int .i64 (wrap64 (2 ^ (n - 1).log2))) = _
  rw [hp2]
  generalize 2 ^ (n - 1).log2 = q at hp ⊢
  rw [show wrap64 (q : Int) = q by unfold wrap64; omega]
/-- The greatest power of two below, or nothing. -/
def SplitN (n : Int) : Nat := if n < 2 ∨ 1024 < n then 0 else splitN n.toNat
theorem SplitN_in {n : Nat} (h1 : 2 ≤ n) (h2 : n ≤ 1024) : SplitN n = splitN n := by
  unfold SplitN; rw [if_neg (by omega), Int.toNat_natCast]
theorem Split_any (n : Int) (w : World) : Calls Tryd.prog 133 #[I n] w fun e w' => e = .returned (I (SplitN n)) ∧ w = w' := by
  by_cases h1 : n < 2
  · have hs : SplitN n = 0 := by unfold SplitN; rw [if_pos (Or.inl h1)]
    rw [hs]
    go_enter Tryd.func133, Tryd.ntmps133
    go_wp2
    go_ret
    exact ⟨rfl, rfl⟩
  · by_cases h2 : 1024 < n
    · have hs : SplitN n = 0 := by unfold SplitN; rw [if_pos (Or.inr h2)]
      rw [hs]
      go_enter Tryd.func133, Tryd.ntmps133
      go_wp2
      go_ret
      exact ⟨rfl, rfl⟩
    · obtain ⟨m, rfl⟩ : ∃ m : Nat, n = m := ⟨n.toNat, by omega⟩
      rw [SplitN_in (by omega) (by omega)]
      go_enter Tryd.func133, Tryd.ntmps133
      go_wp2_with (go_at_call 87; refine (split_any m (by omega) (by omega) _).mono ?_; rintro e w' ⟨rfl, rfl⟩)
      go_ret
      exact ⟨rfl, rfl⟩
theorem refSplit_any (n : Int) (w : World) : Calls Tryd.prog 80 #[I n] w fun e w' => e = .returned (I (SplitN n)) ∧ w = w' := by
  by_cases h1 : n < 2
  · have hs : SplitN n = 0 := by unfold SplitN; rw [if_pos (Or.inl h1)]
    rw [hs]
    go_enter Tryd.func80, Tryd.ntmps80
    go_wp2
    go_ret
    exact ⟨rfl, rfl⟩
  · by_cases h2 : 1024 < n
    · have hs : SplitN n = 0 := by unfold SplitN; rw [if_pos (Or.inr h2)]
      rw [hs]
      go_enter Tryd.func80, Tryd.ntmps80
      go_wp2
      go_ret
      exact ⟨rfl, rfl⟩
    · obtain ⟨m, rfl⟩ : ∃ m : Nat, n = m := ⟨n.toNat, by omega⟩
      rw [SplitN_in (by omega) (by omega)]
      go_enter Tryd.func80, Tryd.ntmps80
      go_wp2
      go_loopw [3] (fun i wr => ∃ q : Nat, 1 ≤ q ∧ q < m ∧ i = I q ∧ Hid (∃ j, q = 2 ^ j) ∧ wr = w) (fun i _ => m - (intOf i).toNat)
      case atStart => exact ⟨1, by omega, by omega, rfl, Lib.hid ⟨0, rfl⟩, rfl⟩
      case round =>
        obtain ⟨q, hq1, hq2, rfl, hj, rfl⟩ := hrel
        by_cases hlt : 2 * q < m
        · have hlt' : 2 * (q : Int) < m := by omega
          go_wp2
          refine ⟨⟨2 * q, by omega, hlt, by go_num, ?_, by trivial⟩, by simp [intOf]; omega⟩
          obtain ⟨j, rfl⟩ := hj.out
          exact Lib.hid ⟨j + 1, by rw [Nat.pow_succ]; omega⟩
        · have hlt' : ¬ 2 * (q : Int) < m := by omega
          go_wp2
          go_ret
          refine ⟨?_, by trivial⟩
          obtain ⟨j, rfl⟩ := hj.out
          rw [split_uniq hq2 (by omega)]
          rfl
end Go.Proofs.YtcdocklbpfdmeaaDoor

/- Roots of both texts. -/
set_option linter.unusedSimpArgs false
set_option linter.unusedVariables false
set_option maxRecDepth 20000
namespace Go.Proofs.YtcdocklbpfdmeaaDoor
open Go.RowKit
set_option maxHeartbeats 1000000 in
theorem root_any (N : Nat) : ∀ (l : List Dg) (a : Option Addr) (c : Nat) (w : World), l.length = N → N ≤ 1024 → N ≤ c → c ≤ maxLen → SlD w a l → Glob w →
    Calls Tryd.prog 85 #[.slice a N c] w (Post w (.agg (rowB 32 (dF (rootD l))))) := by
  induction N using Nat.strongRecOn with
  | ind N ih =>
    intro l a c w hl hN hc hcm hs G
    unfold maxLen at hcm
    rcases Nat.lt_or_ge N 2 with h2 | h2
    · have h01 : N = 0 ∨ N = 1 := by omega
      rcases h01 with rfl | rfl
      · obtain rfl := List.eq_nil_of_length_eq_zero hl
        rw [root_nil]
        go_enter Tryd.func85, Tryd.ntmps85
        go_wp2_with (go_at_call 84; refine (sum_slt G (by (try show Ex _ _); repeat (first | (with_reducible exact ex_refl _) | (with_reducible assumption) | (with_reducible refine ex_drewL ?_) | (with_reducible refine ex_appR ?_ _) | (with_reducible refine ex_wx ?_ _) | (with_reducible refine ex_drew ?_) | (with_reducible refine ex_alloc ?_ _))) (slt_nil _) (by simp)).mono ?_; rintro e w2 ⟨rfl, X, rfl⟩)
        exact ret_row (cs := rowB 32 (dF (sumD []))) Tryd.results85 Tryd.underlying46 rfl info_id rfl (by simp [go_sem]) rfl (post_mk rfl (by (try show Ex _ _); repeat (first | (with_reducible exact ex_refl _) | (with_reducible assumption) | (with_reducible refine ex_drewL ?_) | (with_reducible refine ex_appR ?_ _) | (with_reducible refine ex_wx ?_ _) | (with_reducible refine ex_drew ?_) | (with_reducible refine ex_alloc ?_ _))))
      · obtain ⟨x, rfl⟩ := List.length_eq_one_iff.1 hl
        rw [root_one]
        obtain ⟨g, off, rfl, hg, hcell⟩ := hs.pos (by simp)
        have h1 := hcell 0 x rfl
        clear hcell ih
        rw [Nat.zero_mul, Nat.add_zero] at h1
        go_enter Tryd.func85, Tryd.ntmps85
        go_wp2
        exact ret_row (cs := rowB 32 (dF x)) Tryd.results85 Tryd.underlying46 rfl info_id rfl (by simp [go_sem]) rfl (post_mk rfl (by (try show Ex _ _); repeat (first | (with_reducible exact ex_refl _) | (with_reducible assumption) | (with_reducible refine ex_drewL ?_) | (with_reducible refine ex_appR ?_ _) | (with_reducible refine ex_wx ?_ _) | (with_reducible refine ex_drew ?_) | (with_reducible refine ex_alloc ?_ _))))
    · have hk1 := split_lt (n := N) h2
      have hk2 := split_pos N
      have hr := root_two (l := l) (by omega)
      rw [hl] at hr
      rw [hr]
      clear hr
      obtain ⟨g, off, rfl, hg, hcell⟩ := hs.pos (by omega)
      clear hcell
      have HT : Hid (∀ w', Ex w w' → Calls Tryd.prog 85 #[.slice (some ⟨g, off, none⟩) (splitN N) c] w' (Post w' (.agg (rowB 32 (dF (rootD (l.take (splitN N)))))))) :=
        Lib.hid fun w' k => ih _ hk1 _ _ c w' (by rw [List.length_take]; omega) (by omega) (by omega) (by unfold maxLen; omega) ((hs.take _).ex k) (G.ex k)
      have HD : Hid (∀ w', Ex w w' → Calls Tryd.prog 85 #[.slice (some ⟨g, off + splitN N * 32, none⟩) (N - splitN N) (c - splitN N)] w' (Post w' (.agg (rowB 32 (dF (rootD (l.drop (splitN N)))))))) :=
        Lib.hid fun w' k => ih _ (by omega) _ _ _ w' (by rw [List.length_drop]; omega) (by omega) (by omega) (by unfold maxLen; omega) ((hs.drop _).ex k) (G.ex k)
      have HN : Hid (∀ w', Ex w w' → Calls Tryd.prog 123 #[.agg (rowB 32 (dF (rootD (l.take (splitN N))))), .agg (rowB 32 (dF (rootD (l.drop (splitN N)))))] w' (Post w' (.agg (rowB 32 (dF (nodeD (rootD (l.take (splitN N))) (rootD (l.drop (splitN N))))))))) :=
        Lib.hid fun w' k => node_any G _ _ w' k
      have HS := Lib.hid (split_any N h2 (by omega))
      generalize nodeD (rootD (l.take (splitN N))) (rootD (l.drop (splitN N))) = z at HN ⊢
      generalize rootD (l.take (splitN N)) = x at HT HN
      generalize rootD (l.drop (splitN N)) = y at HD HN
      generalize splitN N = k at hk1 hk2 HT HD HS
      have e0 : ((N : Int) == 0) = false := beq_eq_false_iff_ne.2 (by omega)
      have e1 : ((N : Int) == 1) = false := beq_eq_false_iff_ne.2 (by omega)
      have e2 : (k : Int) ≤ N := by omega
      have e3 : (k : Int) ≤ c := by omega
      have e4 : ¬ c = k := by omega
      have e5 : (N : Int) ≤ c := by omega
      clear ih hs hl h2 hN
      go_enter Tryd.func85, Tryd.ntmps85
      go_wp2_with (go_at_call 87; refine (HS.out _).mono ?_; rintro e w' ⟨rfl, rfl⟩)
      refine wp_region_mix [(0, true), (1, true), (2, true), (4, true), (5, true), (6, true), (3, false), (7, false), (8, false)] 9 (by kernel_rfl) (by kernel_rfl) (fun _ _ d _ _ h => by cases d <;> exact h) ?_
      simp only [List.map_cons, List.map_nil, nth, List.drop_succ_cons, List.drop_zero]
      repeat (first | (refine wpMix_look ?_; go_big_quiet_step (fail); refine wpQuiet_nil ?_) | (refine wpMix_eff rfl (fun X1 => ?_); go_wp2_with (first | (go_at_call 85; (with_reducible refine (HT.out _ (by (try show Ex _ _); repeat (first | (with_reducible exact ex_refl _) | (with_reducible assumption) | (with_reducible refine ex_drewL ?_) | (with_reducible refine ex_appR ?_ _) | (with_reducible refine ex_wx ?_ _) | (with_reducible refine ex_drew ?_) | (with_reducible refine ex_alloc ?_ _)))).mono ?_); rintro e w2 ⟨rfl, X, rfl⟩) | (go_at_call 85; (with_reducible refine (HD.out _ (by (try show Ex _ _); repeat (first | (with_reducible exact ex_refl _) | (with_reducible assumption) | (with_reducible refine ex_drewL ?_) | (with_reducible refine ex_appR ?_ _) | (with_reducible refine ex_wx ?_ _) | (with_reducible refine ex_drew ?_) | (with_reducible refine ex_alloc ?_ _)))).mono ?_); rintro e w2 ⟨rfl, X, rfl⟩) | (go_at_call 123; (with_reducible refine (HN.out _ (by (try show Ex _ _); repeat (first | (with_reducible exact ex_refl _) | (with_reducible assumption) | (with_reducible refine ex_drewL ?_) | (with_reducible refine ex_appR ?_ _) | (with_reducible refine ex_wx ?_ _) | (with_reducible refine ex_drew ?_) | (with_reducible refine ex_alloc ?_ _)))).mono ?_); rintro e w2 ⟨rfl, X, rfl⟩)); refine mixQ_mk (by first | exact ex_refl _ | exact ⟨_, rfl⟩ | exact ex_app _ _ _ | (simp only [wx_wx, wx_drew]; first | exact ex_refl _ | exact ex_app _ _ _ | exact ⟨_, rfl⟩) | (repeat (first | exact ex_refl _ | refine ex_drew ?_ | refine ex_alloc ?_ _ | refine ex_wx ?_ _))) ?_))
      refine wpMix_nil (fun X2 => ?_)
      go_wp2
      exact ret_row (cs := rowB 32 (dF z)) Tryd.results85 Tryd.underlying46 rfl info_id rfl (by simp [go_sem]) rfl (post_mk rfl (by (try show Ex _ _); repeat (first | (with_reducible exact ex_refl _) | (with_reducible assumption) | (with_reducible refine ex_drewL ?_) | (with_reducible refine ex_appR ?_ _) | (with_reducible refine ex_wx ?_ _) | (with_reducible refine ex_drew ?_) | (with_reducible refine ex_alloc ?_ _))))
end Go.Proofs.YtcdocklbpfdmeaaDoor

/- Root, Path, Proof. -/
set_option linter.unusedSimpArgs false
set_option linter.unusedVariables false
set_option maxRecDepth 20000
namespace Go.Proofs.YtcdocklbpfdmeaaDoor
open Go.RowKit
theorem Root_any (l : List Dg) (a : Option Addr) (c : Nat) (w : World) (hN : l.length ≤ 1024) (hc : l.length ≤ c) (hcm : c ≤ maxLen) (hs : SlD w a l) (G : Glob w) :
    Calls Tryd.prog 48 #[.slice a l.length c] w (Post w (.tuple #[.agg (rowB 32 (dF (rootD l))), I 0])) := by
  have HR : Hid (∀ w', Ex w w' → Calls Tryd.prog 85 #[.slice a l.length c] w' (Post w' (.agg (rowB 32 (dF (rootD l)))))) := Lib.hid fun w' k => root_any _ l a c w' rfl hN hc hcm (hs.ex k) (G.ex k)
  generalize rootD l = z at HR ⊢
  generalize l.length = n at hN hc HR ⊢
  clear hs
  unfold maxLen at hcm
  go_enter Tryd.func48, Tryd.ntmps48
  go_wp2_with (go_at_call 85; (with_reducible refine (HR.out _ (by (try show Ex _ _); repeat (first | (with_reducible exact ex_refl _) | (with_reducible assumption) | (with_reducible refine ex_drewL ?_) | (with_reducible refine ex_appR ?_ _) | (with_reducible refine ex_wx ?_ _) | (with_reducible refine ex_drew ?_) | (with_reducible refine ex_alloc ?_ _)))).mono ?_); rintro e w2 ⟨rfl, X, rfl⟩)
  exact ret_rowV (cs := rowB 32 (dF z)) (v := I 0) Tryd.results48 Tryd.underlying46 rfl info_id rfl (by simp [go_sem]) rfl rfl (post_mk rfl (by (try show Ex _ _); repeat (first | (with_reducible exact ex_refl _) | (with_reducible assumption) | (with_reducible refine ex_drewL ?_) | (with_reducible refine ex_appR ?_ _) | (with_reducible refine ex_wx ?_ _) | (with_reducible refine ex_drew ?_) | (with_reducible refine ex_alloc ?_ _))))
theorem Root_long (n : Nat) (a : Option Addr) (c : Nat) (w : World) (hN : 1024 < n) (hc : n ≤ c) (hcm : c ≤ maxLen) :
    Calls Tryd.prog 48 #[.slice a n c] w (Post w (.tuple #[.agg (rowB 32 fun _ => 0), I 3])) := by
  unfold maxLen at hcm
  go_enter Tryd.func48, Tryd.ntmps48
  go_wp2
  exact ret_rowV (cs := rowB 32 fun _ => 0) (v := I 3) Tryd.results48 Tryd.underlying46 rfl info_id rfl (by simp [go_sem]) rfl rfl (post_mk rfl (by (try show Ex _ _); repeat (first | (with_reducible exact ex_refl _) | (with_reducible assumption) | (with_reducible refine ex_drewL ?_) | (with_reducible refine ex_appR ?_ _) | (with_reducible refine ex_wx ?_ _) | (with_reducible refine ex_drew ?_) | (with_reducible refine ex_alloc ?_ _))))
def sliceLen (v : Value) : Nat := match v with | .slice _ n _ => n | _ => 0
@[go_sem] theorem sliceLen_slice (a : Option Addr) (n c : Nat) : sliceLen (.slice a n c) = n := rfl
set_option maxHeartbeats 2000000 in
theorem path_in (l : List Dg) (a : Option Addr) (c i : Nat) (w : World) (hN : l.length ≤ 1024) (hc : l.length ≤ c) (hcm : c ≤ maxLen) (hs : SlD w a l) (G : Glob w) (hi : i < l.length) :
    Calls Tryd.prog 50 #[.slice a l.length c, I i] w (PostO2 w (pathD l i)) := by
  unfold maxLen at hcm
  obtain ⟨g, off, rfl, hg, hcell⟩ := hs.pos (by omega)
  clear hcell
  obtain ⟨r, hr⟩ : ∃ r, r = pathD l i := ⟨_, rfl⟩
  rw [← hr]
  generalize hn : l.length = n at hN hc hi
  go_enter Tryd.func50, Tryd.ntmps50
  have t1 : decide ((1024 : Int) < n) = false := decide_eq_false (by omega)
  have t2 : decide ((i : Int) < 0) = false := decide_eq_false (by omega)
  have t3 : decide ((n : Int) ≤ i) = false := decide_eq_false (by omega)
  have t4 : decide (n ≤ i) = false := decide_eq_false (by omega)
  go_wp2
  clear t1 t2 t3 t4
  go_loopw [0, 1, 6] (fun s x v W => ∃ (m : List Dg) (off cap q : Nat) (out : List Dg), s = .slice (some ⟨g, off, none⟩) m.length cap ∧ x = I q ∧ q < m.length ∧ m.length ≤ cap ∧ cap ≤ 9223372036854775807 ∧ m.length ≤ 1024 ∧ out.length + m.length ≤ 1024 ∧
      Hid (r = pathD m q ++ out.reverse) ∧ Hid (SlD w (some ⟨g, off, none⟩) m) ∧ OwnD W w.heap.size v out ∧ Ex w W) (fun s _ _ _ => sliceLen s)
  case atStart => exact ⟨l, off, c, i, [], by rw [hn], rfl, by omega, by omega, by omega, by omega, by simp; omega, Lib.hid (by simpa using hr), Lib.hid hs, ownd_nil _ _, (by (try show Ex _ _); repeat (first | (with_reducible exact ex_refl _) | (with_reducible assumption) | (with_reducible refine ex_drewL ?_) | (with_reducible refine ex_appR ?_ _) | (with_reducible refine ex_wx ?_ _) | (with_reducible refine ex_drew ?_) | (with_reducible refine ex_alloc ?_ _)))⟩
  case round =>
    obtain ⟨m, off, cap, q, out, rfl, rfl, hq, k1, k2, k3, k4, HR, HS, hown, X, rfl⟩ := hrel
    by_cases h2 : 2 ≤ m.length
    · have hk1 := split_lt h2
      have hk2 := split_pos m.length
      have HSp := Lib.hid (split_any m.length h2 (by omega))
      have hpl := path_lo (l := m) (i := q) h2
      have hph := path_hi (l := m) (i := q) h2
      have hrt : ∀ w', Ex w w' → Calls Tryd.prog 85 #[.slice (some ⟨g, off, none⟩) (splitN m.length) cap] w' (Post w' (.agg (rowB 32 (dF (rootD (m.take (splitN m.length))))))) :=
        fun w' k => root_any _ _ _ cap w' (by rw [List.length_take]; omega) (by omega) (by omega) (by unfold maxLen; omega) ((HS.out.take _).ex k) (G.ex k)
      have hrd : ∀ w', Ex w w' → Calls Tryd.prog 85 #[.slice (some ⟨g, off + splitN m.length * 32, none⟩) (m.length - splitN m.length) (cap - splitN m.length)] w' (Post w' (.agg (rowB 32 (dF (rootD (m.drop (splitN m.length))))))) :=
        fun w' k => root_any _ _ _ _ w' (by rw [List.length_drop]) (by omega) (by omega) (by unfold maxLen; omega) ((HS.out.drop _).ex k) (G.ex k)
      have hst := HS.out.take (splitN m.length)
      have hsd := HS.out.drop (splitN m.length)
      have hlt : (m.take (splitN m.length)).length = splitN m.length := by rw [List.length_take]; omega
      have hld : (m.drop (splitN m.length)).length = m.length - splitN m.length := by rw [List.length_drop]
      generalize m.take (splitN m.length) = mt at hrt hst hlt hpl hph
      generalize m.drop (splitN m.length) = md at hrd hsd hld hpl hph
      generalize splitN m.length = k at hk1 hk2 HSp hrt hrd hst hsd hlt hld hpl hph
      generalize m.length = n2 at hq k1 k3 k4 h2 hk1 HSp hrd hld
      have j1 : (1 : Int) < n2 := by omega
      have j2 : (k : Int) ≤ n2 := by omega
      have j3 : (k : Int) ≤ cap := by omega
      have j4 : ¬ cap = k := by omega
      have j5 : (n2 : Int) ≤ cap := by omega
      by_cases hqk : q < k
      · have j6 : (q : Int) < k := by omega
        have HRt := Lib.hid hrd
        have HE := Lib.hid (hpl hqk)
        have HL : Hid (mt.length = k) := Lib.hid hlt
        have HSt := Lib.hid hst
        clear hrt hrd hst hsd hlt hld hpl hph hs
        generalize rootD md = z at HRt HE
        go_wp2_with (go_at_call 87; refine (HSp.out _).mono ?_; rintro e w' ⟨rfl, rfl⟩)
        refine wp_region_seqA (w) [(0, true), (1, true), (2, true), (3, true), (7, true), (8, true), (9, true), (4, false), (5, false), (6, false), (10, true), (11, true)] (by (try show Ex _ _); repeat (first | (with_reducible exact ex_refl _) | (with_reducible assumption) | (with_reducible refine ex_drewL ?_) | (with_reducible refine ex_appR ?_ _) | (with_reducible refine ex_wx ?_ _) | (with_reducible refine ex_drew ?_) | (with_reducible refine ex_alloc ?_ _))) (by kernel_rfl) (by kernel_rfl) (fun _ _ d _ _ h => by cases d <;> exact h) ?_
        simp only [List.map_cons, List.map_nil, nth]
        repeat (first | ((with_reducible refine wpSeq_look ?_); go_big_quiet_step (fail); (with_reducible refine wpQuiet_nil ?_)) | ((with_reducible refine wpSeq_effF ?_ ?_); (focus rfl); go_simp) | ((with_reducible refine wpSeq_eff ?_ ?_); (focus rfl); (try dsimp only); go_wp2_with (first | (go_at_call 85; (with_reducible refine (HRt.out _ (by (try show Ex _ _); repeat (first | (with_reducible exact ex_refl _) | (with_reducible assumption) | (with_reducible refine ex_drewL ?_) | (with_reducible refine ex_appR ?_ _) | (with_reducible refine ex_wx ?_ _) | (with_reducible refine ex_drew ?_) | (with_reducible refine ex_alloc ?_ _)))).mono ?_); rintro e w2 ⟨rfl, X4, rfl⟩) | (at_builtin; refine wpAppD (r := [z]) _ _ rfl rfl (hown.ex (by (try show Ex _ _); repeat (first | (with_reducible exact ex_refl _) | (with_reducible assumption) | (with_reducible refine ex_drewL ?_) | (with_reducible refine ex_appR ?_ _) | (with_reducible refine ex_wx ?_ _) | (with_reducible refine ex_drew ?_) | (with_reducible refine ex_alloc ?_ _)))) rfl rfl rfl (sld_one z (by (try show Ex _ _); repeat (first | (with_reducible exact ex_refl _) | (with_reducible assumption) | (with_reducible refine ex_drewL ?_) | (with_reducible refine ex_appR ?_ _) | (with_reducible refine ex_wx ?_ _) | (with_reducible refine ex_drew ?_) | (with_reducible refine ex_alloc ?_ _))) (by simp [go_sem])) (by simp; omega) (by simp [go_sem] <;> omega) (fun v1 w1 hown1 hbe => ?_); obtain ⟨X1, rfl⟩ := exOf (A := w) (by (try show Ex _ _); repeat (first | (with_reducible exact ex_refl _) | (with_reducible assumption) | (with_reducible refine ex_drewL ?_) | (with_reducible refine ex_appR ?_ _) | (with_reducible refine ex_wx ?_ _) | (with_reducible refine ex_drew ?_) | (with_reducible refine ex_alloc ?_ _))) hbe)); refine mixQ_mk (by (try show Ex _ _); repeat (first | (with_reducible exact ex_refl _) | (with_reducible assumption) | (with_reducible refine ex_drewL ?_) | (with_reducible refine ex_appR ?_ _) | (with_reducible refine ex_wx ?_ _) | (with_reducible refine ex_drew ?_) | (with_reducible refine ex_alloc ?_ _))) ?_))
        refine wpSeq_nil ?_
        go_wp2
        refine ⟨⟨mt, off, cap, q, out ++ [z], by rw [HL.out], rfl, by have := HL.out; omega, by have := HL.out; omega, by omega, by have := HL.out; omega, by have := HL.out; simp; omega, Lib.hid ?_, HSt, hown1, (by (try show Ex _ _); repeat (first | (with_reducible exact ex_refl _) | (with_reducible assumption) | (with_reducible refine ex_drewL ?_) | (with_reducible refine ex_appR ?_ _) | (with_reducible refine ex_wx ?_ _) | (with_reducible refine ex_drew ?_) | (with_reducible refine ex_alloc ?_ _)))⟩, by simp [sliceLen]; omega⟩
        rw [HR.out, HE.out]; simp
      · have j6 : ¬ (q : Int) < k := by omega
        have HRt := Lib.hid hrt
        have HE := Lib.hid (hph hqk)
        have HL : Hid (md.length = n2 - k) := Lib.hid hld
        have HSt := Lib.hid hsd
        clear hrt hrd hst hsd hlt hld hpl hph hs
        generalize rootD mt = z at HRt HE
        go_wp2_with (go_at_call 87; refine (HSp.out _).mono ?_; rintro e w' ⟨rfl, rfl⟩)
        refine wp_region_seqA (w) [(0, true), (1, true), (2, true), (3, true), (7, true), (8, true), (9, true), (10, true), (11, true), (12, true), (4, false), (5, false), (6, false), (13, true), (14, true), (15, true)] (by (try show Ex _ _); repeat (first | (with_reducible exact ex_refl _) | (with_reducible assumption) | (with_reducible refine ex_drewL ?_) | (with_reducible refine ex_appR ?_ _) | (with_reducible refine ex_wx ?_ _) | (with_reducible refine ex_drew ?_) | (with_reducible refine ex_alloc ?_ _))) (by kernel_rfl) (by kernel_rfl) (fun _ _ d _ _ h => by cases d <;> exact h) ?_
        simp only [List.map_cons, List.map_nil, nth]
        repeat (first | ((with_reducible refine wpSeq_look ?_); go_big_quiet_step (fail); (with_reducible refine wpQuiet_nil ?_)) | ((with_reducible refine wpSeq_effF ?_ ?_); (focus rfl); go_simp) | ((with_reducible refine wpSeq_eff ?_ ?_); (focus rfl); (try dsimp only); go_wp2_with (first | (go_at_call 85; (with_reducible refine (HRt.out _ (by (try show Ex _ _); repeat (first | (with_reducible exact ex_refl _) | (with_reducible assumption) | (with_reducible refine ex_drewL ?_) | (with_reducible refine ex_appR ?_ _) | (with_reducible refine ex_wx ?_ _) | (with_reducible refine ex_drew ?_) | (with_reducible refine ex_alloc ?_ _)))).mono ?_); rintro e w2 ⟨rfl, X4, rfl⟩) | (at_builtin; refine wpAppD (r := [z]) _ _ rfl rfl (hown.ex (by (try show Ex _ _); repeat (first | (with_reducible exact ex_refl _) | (with_reducible assumption) | (with_reducible refine ex_drewL ?_) | (with_reducible refine ex_appR ?_ _) | (with_reducible refine ex_wx ?_ _) | (with_reducible refine ex_drew ?_) | (with_reducible refine ex_alloc ?_ _)))) rfl rfl rfl (sld_one z (by (try show Ex _ _); repeat (first | (with_reducible exact ex_refl _) | (with_reducible assumption) | (with_reducible refine ex_drewL ?_) | (with_reducible refine ex_appR ?_ _) | (with_reducible refine ex_wx ?_ _) | (with_reducible refine ex_drew ?_) | (with_reducible refine ex_alloc ?_ _))) (by simp [go_sem])) (by simp; omega) (by simp [go_sem] <;> omega) (fun v1 w1 hown1 hbe => ?_); obtain ⟨X1, rfl⟩ := exOf (A := w) (by (try show Ex _ _); repeat (first | (with_reducible exact ex_refl _) | (with_reducible assumption) | (with_reducible refine ex_drewL ?_) | (with_reducible refine ex_appR ?_ _) | (with_reducible refine ex_wx ?_ _) | (with_reducible refine ex_drew ?_) | (with_reducible refine ex_alloc ?_ _))) hbe)); refine mixQ_mk (by (try show Ex _ _); repeat (first | (with_reducible exact ex_refl _) | (with_reducible assumption) | (with_reducible refine ex_drewL ?_) | (with_reducible refine ex_appR ?_ _) | (with_reducible refine ex_wx ?_ _) | (with_reducible refine ex_drew ?_) | (with_reducible refine ex_alloc ?_ _))) ?_))
        refine wpSeq_nil ?_
        go_wp2
        refine ⟨⟨md, off + k * 32, cap - k, q - k, out ++ [z], by rw [HL.out], by go_num, by have := HL.out; omega, by have := HL.out; omega, by omega, by have := HL.out; omega, by have := HL.out; simp; omega, Lib.hid ?_, HSt, hown1, (by (try show Ex _ _); repeat (first | (with_reducible exact ex_refl _) | (with_reducible assumption) | (with_reducible refine ex_drewL ?_) | (with_reducible refine ex_appR ?_ _) | (with_reducible refine ex_wx ?_ _) | (with_reducible refine ex_drew ?_) | (with_reducible refine ex_alloc ?_ _)))⟩, by simp [sliceLen]; omega⟩
        rw [HR.out, HE.out]; simp
    · have hp := path_one (l := m) (by omega) q
      have HR2 : Hid (r = out.reverse) := Lib.hid (by rw [HR.out, hp]; simp)
      have j1 : ¬ (1 : Int) < m.length := by omega
      clear hp HR HS
      generalize m.length = n2 at hq k1 k3 k4 h2 j1
      go_wp2_with (go_at_call 88; refine (revd_any out _ _ hown (by omega)).mono ?_; rintro e w1 ⟨rfl, hown1, hbe⟩; obtain ⟨X1, rfl⟩ := exOf (A := w) (by (try show Ex _ _); repeat (first | (with_reducible exact ex_refl _) | (with_reducible assumption) | (with_reducible refine ex_drewL ?_) | (with_reducible refine ex_appR ?_ _) | (with_reducible refine ex_wx ?_ _) | (with_reducible refine ex_drew ?_) | (with_reducible refine ex_alloc ?_ _))) hbe)
      rw [HR2.out]
      exact bodyPost_ret (by simp [results, Tryd.results50]) rfl ⟨_, rfl, hown1, (by (try show Ex _ _); repeat (first | (with_reducible exact ex_refl _) | (with_reducible assumption) | (with_reducible refine ex_drewL ?_) | (with_reducible refine ex_appR ?_ _) | (with_reducible refine ex_wx ?_ _) | (with_reducible refine ex_drew ?_) | (with_reducible refine ex_alloc ?_ _)))⟩
theorem path_out (n : Nat) (a : Option Addr) (c : Nat) (i : Int) (w : World) (hN : n ≤ 1024) (hc : n ≤ c) (hcm : c ≤ maxLen) (hi : i < 0 ∨ (n : Int) ≤ i) :
    Calls Tryd.prog 50 #[.slice a n c, I i] w (Post w (.tuple #[.slice none 0 0, I 2])) := by
  unfold maxLen at hcm
  rcases hi with hi | hi
  all_goals
    go_enter Tryd.func50, Tryd.ntmps50
    go_wp2
    exact bodyPost_ret (by simp [results, Tryd.results50]) rfl (post_mk rfl (by (try show Ex _ _); repeat (first | (with_reducible exact ex_refl _) | (with_reducible assumption) | (with_reducible refine ex_drewL ?_) | (with_reducible refine ex_appR ?_ _) | (with_reducible refine ex_wx ?_ _) | (with_reducible refine ex_drew ?_) | (with_reducible refine ex_alloc ?_ _))))
theorem path_long (n : Nat) (a : Option Addr) (c : Nat) (i : Int) (w : World) (hN : 1024 < n) (hc : n ≤ c) (hcm : c ≤ maxLen) :
    Calls Tryd.prog 50 #[.slice a n c, I i] w (Post w (.tuple #[.slice none 0 0, I 3])) := by
  unfold maxLen at hcm
  go_enter Tryd.func50, Tryd.ntmps50
  go_wp2
  exact bodyPost_ret (by simp [results, Tryd.results50]) rfl (post_mk rfl (by (try show Ex _ _); repeat (first | (with_reducible exact ex_refl _) | (with_reducible assumption) | (with_reducible refine ex_drewL ?_) | (with_reducible refine ex_appR ?_ _) | (with_reducible refine ex_wx ?_ _) | (with_reducible refine ex_drew ?_) | (with_reducible refine ex_alloc ?_ _))))
end Go.Proofs.YtcdocklbpfdmeaaDoor

/- Path, Proof of the document; Same. -/
set_option linter.unusedSimpArgs false
set_option linter.unusedVariables false
set_option maxRecDepth 20000
namespace Go.Proofs.YtcdocklbpfdmeaaDoor
open Go.RowKit
theorem ownd_le {w : World} {Z Z' : Nat} {v : Value} {l : List Dg} (h : OwnD w Z v l) (hz : Z' ≤ Z) : OwnD w Z' v l := by
  refine ⟨h.1, ?_⟩
  rcases h.2 with h | ⟨g, cap, cur, h1, h2, h3⟩
  · exact Or.inl h
  · exact Or.inr ⟨g, cap, cur, h1, by omega, h3⟩
def PostZ (Z : Nat) (W : World) (l : List Dg) (e : Ending) (w' : World) : Prop := ∃ v, e = .returned v ∧ OwnD w' Z v l ∧ ∃ X, w' = wx W X
theorem postZ {W w : World} {l : List Dg} (k : Ex w W) (e : Ending) (w' : World) (h : PostO W l e w') : PostZ w.heap.size W l e w' := by
  obtain ⟨v, h1, h2, h3⟩ := h
  exact ⟨v, h1, ownd_le h2 (ex_size k), h3⟩
theorem path_len (N : Nat) : ∀ (l : List Dg) (i : Nat), l.length = N → (pathD l i).length ≤ l.length := by
  induction N using Nat.strongRecOn with
  | ind N ih =>
    intro l i hl
    by_cases h2 : 2 ≤ l.length
    · have h1 := split_lt h2
      have h3 := split_pos l.length
      by_cases hk : i < splitN l.length
      · rw [path_lo h2 hk]
        have := ih (splitN l.length) (by omega) (l.take (splitN l.length)) i (by rw [List.length_take, Nat.min_eq_left (by omega)])
        rw [List.length_take] at this
        simp; omega
      · rw [path_hi h2 hk]
        have := ih (l.length - splitN l.length) (by omega) (l.drop (splitN l.length)) (i - splitN l.length) (by rw [List.length_drop])
        rw [List.length_drop] at this
        simp; omega
    · rw [path_one (by omega)]; simp
theorem proof_len (N : Nat) : ∀ (l : List Dg) (m : Nat) (known : Bool), l.length = N → (proofD l m known).length ≤ l.length + 1 := by
  induction N using Nat.strongRecOn with
  | ind N ih =>
    intro l m known hl
    rw [proofD]
    split
    · cases known <;> simp
    · rename_i h
      have h1 := split_lt (n := l.length) (by omega)
      have h3 := split_pos l.length
      simp only
      split
      · have := ih (splitN l.length) (by omega) (l.take (splitN l.length)) m known (by rw [List.length_take, Nat.min_eq_left (by omega)])
        rw [List.length_take] at this
        simp; omega
      · have := ih (l.length - splitN l.length) (by omega) (l.drop (splitN l.length)) (m - splitN l.length) false (by rw [List.length_drop])
        rw [List.length_drop] at this
        simp; omega
/-- A slice of one digest, new. -/
theorem ownd_one {w w' : World} {Z : Nat} {v : Value} (d : Dg) (k : Ex (w.alloc (.cells (rowB 32 (dF d)) 46)) w') (hv : v = .slice (some ⟨w.heap.size, 0, none⟩) 1 1) (hZ : Z ≤ w.heap.size) : OwnD w' Z v [d] := by
  subst hv
  refine OwnD.ex (w := w.alloc (.cells (rowB 32 (dF d)) 46)) ?_ k
  exact owns_new (n := 1) (cap := 1) rfl hZ (by omega) (by decide) (by simp) (by simp only [List.flatMap_cons, List.flatMap_nil, List.append_nil, KD, Nat.one_mul]; rw [List.take_of_length_le (by simp)])
/-- **Same.** -/
theorem same_any (l r : List Dg) (a b : Option Addr) (c c2 : Nat) (w : World) (hl : l.length ≤ c) (hc : c ≤ maxLen) (hr : r.length ≤ c2) (hc2 : c2 ≤ maxLen) (hs : SlD w a l) (ht : SlD w b r) :
    Calls Tryd.prog 36 #[.slice a l.length c, .slice b r.length c2] w (Post w (.bool (decide (l = r)))) := by
  unfold maxLen at hc hc2
  by_cases hn : l.length = r.length
  · have HN : Hid (l.length = r.length) := Lib.hid hn
    obtain ⟨n, hnl⟩ : ∃ n, l.length = n := ⟨_, rfl⟩
    obtain ⟨res, hres⟩ : ∃ res, decide (l = r) = res := ⟨_, rfl⟩
    have hnr : r.length = n := by omega
    have HL : Hid (l.length = n) := Lib.hid hnl
    have HR : Hid (r.length = n) := Lib.hid hnr
    have HRES : Hid (decide (l = r) = res) := Lib.hid hres
    rw [hnl] at hl ⊢
    rw [hnr] at hr ⊢
    rw [hres]
    clear hn hnl hnr hres
    go_enter Tryd.func36, Tryd.ntmps36
    go_wp2
    go_loopw [13] (fun i W => ∃ k : Nat, k ≤ n ∧ i = I k ∧ Hid (∀ j, j < k → l[j]? = r[j]?) ∧ Ex w W) (fun i _ => n - (intOf i).toNat)
    case atStart => exact ⟨0, by omega, rfl, Lib.hid (fun j hj => by omega), (by (try show Ex _ _); repeat (first | (with_reducible exact ex_refl _) | (with_reducible assumption) | (with_reducible refine ex_drewL ?_) | (with_reducible refine ex_appR ?_ _) | (with_reducible refine ex_wx ?_ _) | (with_reducible refine ex_drew ?_) | (with_reducible refine ex_alloc ?_ _)))⟩
    case round =>
      obtain ⟨k, hk, rfl, HK, X, rfl⟩ := hrel
      by_cases hlt : k < n
      · obtain ⟨g, off, rfl, hg, hcell⟩ := hs.pos (by rw [HL.out]; omega)
        obtain ⟨g2, off2, rfl, hg2, hcell2⟩ := ht.pos (by rw [HR.out]; omega)
        obtain ⟨x, hx⟩ : ∃ x, l[k]? = some x := ⟨_, List.getElem?_eq_getElem (by rw [HL.out]; omega)⟩
        obtain ⟨y, hy⟩ : ∃ y, r[k]? = some y := ⟨_, List.getElem?_eq_getElem (by rw [HR.out]; omega)⟩
        have h1 := hcell k x hx
        have h2 := hcell2 k y hy
        have HX := Lib.hid hx
        have HY := Lib.hid hy
        have he := eqD x y
        clear hcell hcell2 hx hy hs ht
        by_cases hxy : x = y
        · have HK2 : Hid (∀ j, j < k + 1 → l[j]? = r[j]?) := Lib.hid (fun j hj => by
            by_cases hjk : j < k
            · exact HK.out j hjk
            · obtain rfl : j = k := by omega
              rw [HX.out, HY.out, hxy])
          rw [decide_eq_true hxy] at he
          clear hxy
          go_wp2
          refine wp_region_seq [(0, true), (1, true), (2, true), (3, true), (4, true), (5, true), (6, true), (7, true), (8, true)] (by kernel_rfl) (by kernel_rfl) (fun _ _ d _ _ h => by cases d <;> exact h) ?_
          simp only [List.map_cons, List.map_nil, nth]
          repeat (first | ((with_reducible refine wpSeq_look ?_); go_big_quiet_step (fail); (with_reducible refine wpQuiet_nil ?_)) | ((with_reducible refine wpSeq_effF ?_ ?_); (focus rfl); go_simp) | ((with_reducible refine wpSeq_eff ?_ ?_); (focus rfl); (try dsimp only); go_wp2_with (fail); refine mixQ_mk (by (try show Ex _ _); repeat (first | (with_reducible exact ex_refl _) | (with_reducible assumption) | (with_reducible refine ex_drewL ?_) | (with_reducible refine ex_appR ?_ _) | (with_reducible refine ex_wx ?_ _) | (with_reducible refine ex_drew ?_) | (with_reducible refine ex_alloc ?_ _))) ?_))
          refine wpSeq_nil ?_
          go_wp2
          exact ⟨⟨k + 1, by omega, by go_num, HK2, (by (try show Ex _ _); repeat (first | (with_reducible exact ex_refl _) | (with_reducible assumption) | (with_reducible refine ex_drewL ?_) | (with_reducible refine ex_appR ?_ _) | (with_reducible refine ex_wx ?_ _) | (with_reducible refine ex_drew ?_) | (with_reducible refine ex_alloc ?_ _)))⟩, by simp [intOf]; omega⟩
        · have hne : ¬ l = r := fun h => hxy (by
            have := HX.out
            rw [h, HY.out] at this
            exact (Option.some.inj this).symm)
          have hres := HRES.out
          rw [decide_eq_false hne] at hres
          subst hres
          rw [decide_eq_false hxy] at he
          clear hxy hne
          go_wp2
          refine wp_region_seq [(0, true), (1, true), (2, true), (3, true), (4, true), (5, true), (6, true), (7, true), (8, true)] (by kernel_rfl) (by kernel_rfl) (fun _ _ d _ _ h => by cases d <;> exact h) ?_
          simp only [List.map_cons, List.map_nil, nth]
          repeat (first | ((with_reducible refine wpSeq_look ?_); go_big_quiet_step (fail); (with_reducible refine wpQuiet_nil ?_)) | ((with_reducible refine wpSeq_effF ?_ ?_); (focus rfl); go_simp) | ((with_reducible refine wpSeq_eff ?_ ?_); (focus rfl); (try dsimp only); go_wp2_with (fail); refine mixQ_mk (by (try show Ex _ _); repeat (first | (with_reducible exact ex_refl _) | (with_reducible assumption) | (with_reducible refine ex_drewL ?_) | (with_reducible refine ex_appR ?_ _) | (with_reducible refine ex_wx ?_ _) | (with_reducible refine ex_drew ?_) | (with_reducible refine ex_alloc ?_ _))) ?_))
          refine wpSeq_nil ?_
          go_wp2
          go_ret
          exact post_mk rfl (by (try show Ex _ _); repeat (first | (with_reducible exact ex_refl _) | (with_reducible assumption) | (with_reducible refine ex_drewL ?_) | (with_reducible refine ex_appR ?_ _) | (with_reducible refine ex_wx ?_ _) | (with_reducible refine ex_drew ?_) | (with_reducible refine ex_alloc ?_ _)))
      · have hlr : l = r := List.ext_getElem? fun j => by
          by_cases hj : j < k
          · exact HK.out j hj
          · rw [List.getElem?_eq_none (by rw [HL.out]; omega), List.getElem?_eq_none (by rw [HR.out]; omega)]
        have hres := HRES.out
        rw [decide_eq_true hlr] at hres
        subst hres
        obtain rfl : k = n := by omega
        clear hlr hlt hk hs ht HL HR HN HK HRES
        go_wp2
        go_ret
        exact post_mk rfl (by (try show Ex _ _); repeat (first | (with_reducible exact ex_refl _) | (with_reducible assumption) | (with_reducible refine ex_drewL ?_) | (with_reducible refine ex_appR ?_ _) | (with_reducible refine ex_wx ?_ _) | (with_reducible refine ex_drew ?_) | (with_reducible refine ex_alloc ?_ _)))
  · have hne : ¬ l = r := fun h => hn (by rw [h])
    rw [decide_eq_false hne]
    have hb : ((l.length : Int) == r.length) = false := beq_eq_false_iff_ne.2 (by omega)
    have hb2 : (l.length == r.length) = false := beq_eq_false_iff_ne.2 hn
    clear hs ht hne
    generalize l.length = n at hn hl hb hb2 ⊢
    generalize r.length = m at hn hr hb hb2 ⊢
    go_enter Tryd.func36, Tryd.ntmps36
    go_wp2
    go_ret
    exact post_mk rfl (by (try show Ex _ _); repeat (first | (with_reducible exact ex_refl _) | (with_reducible assumption) | (with_reducible refine ex_drewL ?_) | (with_reducible refine ex_appR ?_ _) | (with_reducible refine ex_wx ?_ _) | (with_reducible refine ex_drew ?_) | (with_reducible refine ex_alloc ?_ _)))
end Go.Proofs.YtcdocklbpfdmeaaDoor

/- The ways: sides, steps; over. -/
set_option linter.unusedSimpArgs false
set_option linter.unusedVariables false
set_option maxRecDepth 20000
namespace Go.Proofs.YtcdocklbpfdmeaaDoor
open Go.RowKit
/-- append of one bool. -/
theorem wpAppL {ops : Array Oper} {rest : List Oper} {o : Oper} {a : Act} {w u : World} {Q : Exit → Act → World → Prop} (s x : Operand) (hgd : o.guard = none)
    (ho : o.op = .call { callee := .builtin .append, args := #[s, x], argTypes := #[170, 170] })
    {Z g : Nat} {v : Value} {l : List Bool} (b : Bool) (hown : OwnB w Z v l) (hs : a.eval s = v) (hx : a.eval x = .slice (some ⟨g, 0, none⟩) 1 1) (k : Ex (u.alloc (.cells #[.bool b] 4)) w) (hg : g = u.heap.size) (hlen : l.length + 1 ≤ 1000000) (hZ : Z ≤ w.heap.size)
    (h : ∀ v' w', OwnB w' Z v' (l ++ [b]) → Below Z w w' → wpList Tryd.prog ops Q rest (a.put o.dst v') w') : wpList Tryd.prog ops Q (o :: rest) a w := by
  subst hg
  have hb := ex_block k (heap_alloc_new u _)
  refine wpApp appBool s x hgd ho hown hs ⟨_, 0, none⟩ 1 1 ([b].flatMap KB) hx rfl (fun j y hj => ?_) (KB_one _) (by unfold maxLen; omega) (by omega) hZ fun v' w' k1 k2 => ?_
  · have hj0 : j = 0 := by
      have := (List.getElem?_eq_some_iff.1 hj).1
      simpa [KB] using this
    subst hj0
    have hadd : (⟨u.heap.size, 0, none⟩ : Addr).add 0 = ⟨u.heap.size, 0, none⟩ := by unfold Addr.add; simp
    rw [hadd, cell_of_row _ u.heap.size 0 _ _ _ hb]
    exact hj
  · rw [← List.flatMap_append, show l.length + 1 = (l ++ [b]).length by simp] at k1
    exact h v' w' k1 k2
theorem ownb_nil (w : World) (Z : Nat) : OwnB w Z (.slice none 0 0) [] := owns_nil _ _ _ _
theorem OwnB.ex {w w' : World} {Z : Nat} {v : Value} {l : List Bool} (h : OwnB w Z v l) (k : Ex w w') : OwnB w' Z v l := owns_ex h k
/-- What hands back bools of the call's own. -/
def PostW (Z : Nat) (W : World) (l : List Bool) (e : Ending) (w' : World) : Prop := ∃ v, e = .returned v ∧ OwnB w' Z v l ∧ ∃ X, w' = wx W X
theorem sides_len (N : Nat) : ∀ (n i : Nat), n = N → (sidesN n i).length ≤ n := by
  induction N using Nat.strongRecOn with
  | ind N ih =>
    intro n i hn
    by_cases h2 : 2 ≤ n
    · have h1 := split_lt h2
      have h3 := split_pos n
      by_cases hk : splitN n ≤ i
      · rw [sides_hi h2 hk]
        have := ih (n - splitN n) (by omega) _ (i - splitN n) rfl
        simp; omega
      · rw [sides_lo h2 hk]
        have := ih (splitN n) (by omega) _ i rfl
        simp; omega
    · rw [sides_one (by omega)]; simp
set_option maxHeartbeats 2000000 in
theorem sides_any (n i : Nat) (w : World) (hn : n ≤ 1024) (hi : i ≤ 1024) :
    Calls Tryd.prog 124 #[I n, I i] w (PostW w.heap.size w (sidesN n i)) := by
  obtain ⟨r, hr⟩ : ∃ r, r = sidesN n i := ⟨_, rfl⟩
  rw [← hr]
  have HR0 : Hid (r = sidesN n i) := Lib.hid hr
  clear hr
  go_enter Tryd.func124, Tryd.ntmps124
  go_wp2
  go_loopw [0, 1, 5] (fun x y v W => ∃ (m q : Nat) (out : List Bool), x = I m ∧ y = I q ∧ m ≤ 1024 ∧ q ≤ 1024 ∧ out.length + m ≤ 1024 ∧ Hid (r = out ++ sidesN m q) ∧ OwnB W w.heap.size v out ∧ Ex w W) (fun x _ _ _ => (intOf x).toNat)
  case atStart => exact ⟨n, i, [], rfl, rfl, hn, hi, by simp; omega, HR0, ownb_nil _ _, (by (try show Ex _ _); repeat (first | (with_reducible exact ex_refl _) | (with_reducible assumption) | (with_reducible refine ex_drewL ?_) | (with_reducible refine ex_appR ?_ _) | (with_reducible refine ex_wx ?_ _) | (with_reducible refine ex_drew ?_) | (with_reducible refine ex_alloc ?_ _)))⟩
  case round =>
    obtain ⟨m, q, out, rfl, rfl, hm, hq, k4, HR, hown, X, rfl⟩ := hrel
    by_cases h2 : 2 ≤ m
    · have hk1 := split_lt h2
      have hk2 := split_pos m
      have HSp := Lib.hid (split_any m h2 (by omega))
      have hsl := sides_lo (n := m) (i := q) h2
      have hsh := sides_hi (n := m) (i := q) h2
      generalize splitN m = k at hk1 hk2 HSp hsl hsh
      have j1 : (1 : Int) < m := by omega
      by_cases hqk : k ≤ q
      · have j6 : (k : Int) ≤ q := by omega
        have HE := Lib.hid (hsh hqk)
        clear hsl hsh
        go_wp2_with (first | (go_at_call 87; refine (HSp.out _).mono ?_; rintro e w' ⟨rfl, rfl⟩) | (at_builtin; refine wpAppL _ _ rfl rfl true (hown.ex (by (try show Ex _ _); repeat (first | (with_reducible exact ex_refl _) | (with_reducible assumption) | (with_reducible refine ex_drewL ?_) | (with_reducible refine ex_appR ?_ _) | (with_reducible refine ex_wx ?_ _) | (with_reducible refine ex_drew ?_) | (with_reducible refine ex_alloc ?_ _)))) rfl rfl (by (try show Ex _ _); repeat (first | (with_reducible exact ex_refl _) | (with_reducible assumption) | (with_reducible refine ex_drewL ?_) | (with_reducible refine ex_appR ?_ _) | (with_reducible refine ex_wx ?_ _) | (with_reducible refine ex_drew ?_) | (with_reducible refine ex_alloc ?_ _))) (by simp [go_sem]) (by omega) (by simp [go_sem] <;> omega) (fun v1 w1 hown1 hbe => ?_); obtain ⟨X1, rfl⟩ := exOf (A := w) (by (try show Ex _ _); repeat (first | (with_reducible exact ex_refl _) | (with_reducible assumption) | (with_reducible refine ex_drewL ?_) | (with_reducible refine ex_appR ?_ _) | (with_reducible refine ex_wx ?_ _) | (with_reducible refine ex_drew ?_) | (with_reducible refine ex_alloc ?_ _))) hbe))
        refine ⟨⟨m - k, q - k, out ++ [true], by go_num, by go_num, by omega, by omega, by simp; omega, Lib.hid ?_, hown1, (by (try show Ex _ _); repeat (first | (with_reducible exact ex_refl _) | (with_reducible assumption) | (with_reducible refine ex_drewL ?_) | (with_reducible refine ex_appR ?_ _) | (with_reducible refine ex_wx ?_ _) | (with_reducible refine ex_drew ?_) | (with_reducible refine ex_alloc ?_ _)))⟩, by simp [intOf]; omega⟩
        rw [HR.out, HE.out]; simp
      · have j6 : ¬ (k : Int) ≤ q := by omega
        have HE := Lib.hid (hsl hqk)
        clear hsl hsh
        go_wp2_with (first | (go_at_call 87; refine (HSp.out _).mono ?_; rintro e w' ⟨rfl, rfl⟩) | (at_builtin; refine wpAppL _ _ rfl rfl false (hown.ex (by (try show Ex _ _); repeat (first | (with_reducible exact ex_refl _) | (with_reducible assumption) | (with_reducible refine ex_drewL ?_) | (with_reducible refine ex_appR ?_ _) | (with_reducible refine ex_wx ?_ _) | (with_reducible refine ex_drew ?_) | (with_reducible refine ex_alloc ?_ _)))) rfl rfl (by (try show Ex _ _); repeat (first | (with_reducible exact ex_refl _) | (with_reducible assumption) | (with_reducible refine ex_drewL ?_) | (with_reducible refine ex_appR ?_ _) | (with_reducible refine ex_wx ?_ _) | (with_reducible refine ex_drew ?_) | (with_reducible refine ex_alloc ?_ _))) (by simp [go_sem]) (by omega) (by simp [go_sem] <;> omega) (fun v1 w1 hown1 hbe => ?_); obtain ⟨X1, rfl⟩ := exOf (A := w) (by (try show Ex _ _); repeat (first | (with_reducible exact ex_refl _) | (with_reducible assumption) | (with_reducible refine ex_drewL ?_) | (with_reducible refine ex_appR ?_ _) | (with_reducible refine ex_wx ?_ _) | (with_reducible refine ex_drew ?_) | (with_reducible refine ex_alloc ?_ _))) hbe))
        refine ⟨⟨k, q, out ++ [false], rfl, rfl, by omega, by omega, by simp; omega, Lib.hid ?_, hown1, (by (try show Ex _ _); repeat (first | (with_reducible exact ex_refl _) | (with_reducible assumption) | (with_reducible refine ex_drewL ?_) | (with_reducible refine ex_appR ?_ _) | (with_reducible refine ex_wx ?_ _) | (with_reducible refine ex_drew ?_) | (with_reducible refine ex_alloc ?_ _)))⟩, by simp [intOf]; omega⟩
        rw [HR.out, HE.out]; simp
    · have hs := sides_one (n := m) (by omega) q
      have HR2 : Hid (r = out) := Lib.hid (by rw [HR.out, hs]; simp)
      have j1 : ¬ (1 : Int) < m := by omega
      clear hs HR
      go_wp2
      go_ret
      rw [HR2.out]
      exact ⟨_, rfl, hown, (by (try show Ex _ _); repeat (first | (with_reducible exact ex_refl _) | (with_reducible assumption) | (with_reducible refine ex_drewL ?_) | (with_reducible refine ex_appR ?_ _) | (with_reducible refine ex_wx ?_ _) | (with_reducible refine ex_drew ?_) | (with_reducible refine ex_alloc ?_ _)))⟩
set_option maxHeartbeats 2000000 in
theorem steps_any (i n : Nat) (w : World) (hn : n ≤ 1024) (hi1 : 1 ≤ i) (hi : i ≤ n) :
    Calls Tryd.prog 129 #[I i, I n] w (PostW w.heap.size w (stepsN i n)) := by
  obtain ⟨r, hr⟩ : ∃ r, r = stepsN i n := ⟨_, rfl⟩
  rw [← hr]
  have HR0 : Hid (r = stepsN i n) := Lib.hid hr
  clear hr
  go_enter Tryd.func129, Tryd.ntmps129
  go_wp2
  go_loopw [0, 1, 5] (fun y x v W => ∃ (m q : Nat) (out : List Bool), y = I q ∧ x = I m ∧ m ≤ 1024 ∧ 1 ≤ q ∧ q ≤ m ∧ out.length + m ≤ 1024 ∧ Hid (r = out ++ stepsN q m) ∧ OwnB W w.heap.size v out ∧ Ex w W) (fun _ x _ _ => (intOf x).toNat)
  case atStart => exact ⟨n, i, [], rfl, rfl, hn, hi1, hi, by simp; omega, HR0, ownb_nil _ _, (by (try show Ex _ _); repeat (first | (with_reducible exact ex_refl _) | (with_reducible assumption) | (with_reducible refine ex_drewL ?_) | (with_reducible refine ex_appR ?_ _) | (with_reducible refine ex_wx ?_ _) | (with_reducible refine ex_drew ?_) | (with_reducible refine ex_alloc ?_ _)))⟩
  case round =>
    obtain ⟨m, q, out, rfl, rfl, hm, hq1, hq, k4, HR, hown, X, rfl⟩ := hrel
    by_cases h2 : q < m
    · have hk1 := split_lt (n := m) (by omega)
      have hk2 := split_pos m
      have HSp := Lib.hid (split_any m (by omega) (by omega))
      have hsl := steps_lo (n := m) (m := q) hq1 h2
      have hsh := steps_hi (n := m) (m := q) hq1 h2
      generalize splitN m = k at hk1 hk2 HSp hsl hsh
      have j1 : (q : Int) < m := by omega
      by_cases hqk : k < q
      · have j6 : (k : Int) < q := by omega
        have HE := Lib.hid (hsh hqk)
        clear hsl hsh
        go_wp2_with (first | (go_at_call 87; refine (HSp.out _).mono ?_; rintro e w' ⟨rfl, rfl⟩) | (at_builtin; refine wpAppL _ _ rfl rfl true (hown.ex (by (try show Ex _ _); repeat (first | (with_reducible exact ex_refl _) | (with_reducible assumption) | (with_reducible refine ex_drewL ?_) | (with_reducible refine ex_appR ?_ _) | (with_reducible refine ex_wx ?_ _) | (with_reducible refine ex_drew ?_) | (with_reducible refine ex_alloc ?_ _)))) rfl rfl (by (try show Ex _ _); repeat (first | (with_reducible exact ex_refl _) | (with_reducible assumption) | (with_reducible refine ex_drewL ?_) | (with_reducible refine ex_appR ?_ _) | (with_reducible refine ex_wx ?_ _) | (with_reducible refine ex_drew ?_) | (with_reducible refine ex_alloc ?_ _))) (by simp [go_sem]) (by omega) (by simp [go_sem] <;> omega) (fun v1 w1 hown1 hbe => ?_); obtain ⟨X1, rfl⟩ := exOf (A := w) (by (try show Ex _ _); repeat (first | (with_reducible exact ex_refl _) | (with_reducible assumption) | (with_reducible refine ex_drewL ?_) | (with_reducible refine ex_appR ?_ _) | (with_reducible refine ex_wx ?_ _) | (with_reducible refine ex_drew ?_) | (with_reducible refine ex_alloc ?_ _))) hbe))
        refine ⟨⟨m - k, q - k, out ++ [true], by go_num, by go_num, by omega, by omega, by omega, by simp; omega, Lib.hid ?_, hown1, (by (try show Ex _ _); repeat (first | (with_reducible exact ex_refl _) | (with_reducible assumption) | (with_reducible refine ex_drewL ?_) | (with_reducible refine ex_appR ?_ _) | (with_reducible refine ex_wx ?_ _) | (with_reducible refine ex_drew ?_) | (with_reducible refine ex_alloc ?_ _)))⟩, by simp [intOf]; omega⟩
        rw [HR.out, HE.out]; simp
      · have j6 : ¬ (k : Int) < q := by omega
        have HE := Lib.hid (hsl hqk)
        clear hsl hsh
        go_wp2_with (first | (go_at_call 87; refine (HSp.out _).mono ?_; rintro e w' ⟨rfl, rfl⟩) | (at_builtin; refine wpAppL _ _ rfl rfl false (hown.ex (by (try show Ex _ _); repeat (first | (with_reducible exact ex_refl _) | (with_reducible assumption) | (with_reducible refine ex_drewL ?_) | (with_reducible refine ex_appR ?_ _) | (with_reducible refine ex_wx ?_ _) | (with_reducible refine ex_drew ?_) | (with_reducible refine ex_alloc ?_ _)))) rfl rfl (by (try show Ex _ _); repeat (first | (with_reducible exact ex_refl _) | (with_reducible assumption) | (with_reducible refine ex_drewL ?_) | (with_reducible refine ex_appR ?_ _) | (with_reducible refine ex_wx ?_ _) | (with_reducible refine ex_drew ?_) | (with_reducible refine ex_alloc ?_ _))) (by simp [go_sem]) (by omega) (by simp [go_sem] <;> omega) (fun v1 w1 hown1 hbe => ?_); obtain ⟨X1, rfl⟩ := exOf (A := w) (by (try show Ex _ _); repeat (first | (with_reducible exact ex_refl _) | (with_reducible assumption) | (with_reducible refine ex_drewL ?_) | (with_reducible refine ex_appR ?_ _) | (with_reducible refine ex_wx ?_ _) | (with_reducible refine ex_drew ?_) | (with_reducible refine ex_alloc ?_ _))) hbe))
        refine ⟨⟨k, q, out ++ [false], rfl, rfl, by omega, by omega, by omega, by simp; omega, Lib.hid ?_, hown1, (by (try show Ex _ _); repeat (first | (with_reducible exact ex_refl _) | (with_reducible assumption) | (with_reducible refine ex_drewL ?_) | (with_reducible refine ex_appR ?_ _) | (with_reducible refine ex_wx ?_ _) | (with_reducible refine ex_drew ?_) | (with_reducible refine ex_alloc ?_ _)))⟩, by simp [intOf]; omega⟩
        rw [HR.out, HE.out]; simp
    · have hs := steps_all (n := m) (m := q) (by omega)
      have HR2 : Hid (r = out) := Lib.hid (by rw [HR.out, hs]; simp)
      have j1 : ¬ (q : Int) < m := by omega
      clear hs HR
      go_wp2
      go_ret
      rw [HR2.out]
      exact ⟨_, rfl, hown, (by (try show Ex _ _); repeat (first | (with_reducible exact ex_refl _) | (with_reducible assumption) | (with_reducible refine ex_drewL ?_) | (with_reducible refine ex_appR ?_ _) | (with_reducible refine ex_wx ?_ _) | (with_reducible refine ex_drew ?_) | (with_reducible refine ex_alloc ?_ _)))⟩
set_option maxHeartbeats 1000000 in
theorem over_any {w : World} (G : Glob w) (b : Bool) (x o : Dg) : ∀ w', Ex w w' →
    Calls Tryd.prog 126 #[.bool b, .agg (rowB 32 (dF x)), .agg (rowB 32 (dF o))] w' (Post w' (.agg (rowB 32 (dF (overD b x o))))) := by
  intro w' k
  replace G := G.ex k
  clear k
  have HN : Hid (∀ y z w2, Ex w' w2 → Calls Tryd.prog 123 #[.agg (rowB 32 (dF y)), .agg (rowB 32 (dF z))] w2 (Post w2 (.agg (rowB 32 (dF (nodeD y z)))))) := Lib.hid fun y z w2 k => node_any G y z w2 k
  cases b
  all_goals
    go_enter Tryd.func126, Tryd.ntmps126
    go_wp2_with (go_at_call 123; refine (HN.out _ _ _ (by (try show Ex _ _); repeat (first | (with_reducible exact ex_refl _) | (with_reducible assumption) | (with_reducible refine ex_drewL ?_) | (with_reducible refine ex_appR ?_ _) | (with_reducible refine ex_wx ?_ _) | (with_reducible refine ex_drew ?_) | (with_reducible refine ex_alloc ?_ _)))).mono ?_; rintro e w2 ⟨rfl, X, rfl⟩)
  · exact ret_row (cs := rowB 32 (dF (nodeD x o))) Tryd.results126 Tryd.underlying46 rfl info_id rfl (by simp [go_sem]) rfl (post_mk rfl (by (try show Ex _ _); repeat (first | (with_reducible exact ex_refl _) | (with_reducible assumption) | (with_reducible refine ex_drewL ?_) | (with_reducible refine ex_appR ?_ _) | (with_reducible refine ex_wx ?_ _) | (with_reducible refine ex_drew ?_) | (with_reducible refine ex_alloc ?_ _))))
  · exact ret_row (cs := rowB 32 (dF (nodeD o x))) Tryd.results126 Tryd.underlying46 rfl info_id rfl (by simp [go_sem]) rfl (post_mk rfl (by (try show Ex _ _); repeat (first | (with_reducible exact ex_refl _) | (with_reducible assumption) | (with_reducible refine ex_drewL ?_) | (with_reducible refine ex_appR ?_ _) | (with_reducible refine ex_wx ?_ _) | (with_reducible refine ex_drew ?_) | (with_reducible refine ex_alloc ?_ _))))
/-- A row of bools behind A. -/
theorem ownb_at {A : World} {X : More} {v : Value} {l : List Bool} (h : OwnB (wx A X) A.heap.size v l) (hl : 0 < l.length) :
    ∃ q cap cur, v = .slice (some ⟨A.heap.size + q, 0, none⟩) l.length cap ∧ X.at q = some (.cells cur 4 (0, 0)) ∧ l.length ≤ cap ∧ cap ≤ maxLen ∧ ∀ (k : Nat) (b : Bool), l[k]? = some b → cur[k]? = some (Value.bool b) := by
  obtain ⟨g, cap, cur, rfl, h1, h2, h3, h4, h5, h6⟩ := own_block h hl (by omega)
  refine ⟨g - A.heap.size, cap, cur, by rw [show A.heap.size + (g - A.heap.size) = g by omega], ?_, h3, h4, fun k b hk => ?_⟩
  · rw [← wx_heap_more A X, show A.heap.size + (g - A.heap.size) = g by omega]; exact h2
  · have := flat_get KB_len l k b 0 hk (by omega)
    rw [← h6] at this
    simp only [Nat.mul_one, Nat.add_zero, List.getElem?_take, Array.getElem?_toList] at this
    rw [if_pos (List.getElem?_eq_some_iff.1 hk).1] at this
    exact this
/-- What lies behind A lies behind another as long. -/
theorem own_swap {A A' : World} {X : More} {Z : Nat} {t : TypeId} {s : Nat} {v : Value} {n : Nat} {xs : List Value} (h : (wx A X).ownsRow Z t s v n xs) (hs : A.heap.size = A'.heap.size) (hZ : A.heap.size ≤ Z) : (wx A' X).ownsRow Z t s v n xs := by
  refine ⟨h.1, ?_⟩
  rcases h.2 with h | ⟨g, cap, cur, h1, h2, h3, h4⟩
  · exact Or.inl h
  · refine Or.inr ⟨g, cap, cur, h1, h2, ?_, h4⟩
    have e1 := wx_heap_more A X (g - A.heap.size)
    have e2 := wx_heap_more A' X (g - A.heap.size)
    rw [show A.heap.size + (g - A.heap.size) = g by omega] at e1
    rw [← hs, show A.heap.size + (g - A.heap.size) = g by omega] at e2
    rw [e2, ← e1]; exact h3
end Go.Proofs.YtcdocklbpfdmeaaDoor
