import Derived.Test.YtcdocklbpfdmeaaDoorMMix
import Derived.Test.YtcdocklbpfdmeaaDoorMBlock
import Derived.Test.YtcdocklbpfdmeaaDoorMSl

/- Sum of the program: what it does. -/
set_option linter.unusedSimpArgs false
set_option linter.unusedVariables false
set_option maxRecDepth 20000
namespace Go.Proofs.YtcdocklbpfdmeaaDoor
open Go.RowKit
theorem block_at (H : Nat → UInt32) (b : Nat → UInt8) (x : Int) (m : Nat) (hx : x = m) (hm : m < 18446744073709551616) (last : Bool) (w : World) (g0 : cellsN w 0 0 8 = some (rowU 8 startF)) (g1 : cellsN w 1 0 160 = some (rowI 160 ordersF)) (g2 : cellsN w 2 0 32 = some (rowI 32 foursF)) (z0 : 0 < w.heap.size) (z1 : 1 < w.heap.size) (z2 : 2 < w.heap.size) :
    Calls Tryd.prog 122 #[.agg (rowU 8 H), .agg (rowB 64 b), .int .u64 x, .bool last] w (Post w (.agg (rowU 8 (blockF H b (UInt64.ofNat m) last)))) := by
  have e : x = ln (UInt64.ofNat m) := by rw [hx]; unfold ln; rw [UInt64.toNat_ofNat_of_lt' hm]
  rw [e]
  exact block_any H b (UInt64.ofNat m) last w g0 g1 g2 z0 z1 z2

def arrRaw (P : Program) (t : TypeId) (v : Value) (w : World) : Result Value := (Instr.arrayAt t v).run P w
@[go_sem] theorem arrayAt64 (a : Option Addr) (n c : Nat) (w : World) : (Instr.arrayAt 160 (.slice a n c)).run Tryd.prog w = if 64 ≤ n then .ok (.pointer a) w else arrRaw Tryd.prog 160 (.slice a n c) w := by
  split
  · exact run_arrayAt w 160 _ 64 a n c Tryd.underlying160 ‹_›
  · rfl
@[local go_sem] theorem un_xor_form (x : UInt32) : bits BinOp.xor IntKind.u32 (un x) 16842784 = un (x ^^^ 16842784) := un_xor x 16842784
set_option maxHeartbeats 2000000 in
theorem sum_some (g off n cap : Nat) (f : Nat → UInt8) (w : World) (hn : n ≤ cap) (hcap : cap ≤ maxLen) (hg : g < w.heap.size)
    (hc : ∀ k m, k + m ≤ n → cellsN w g (off + k) m = some (rowB m (shiftF f k)))
    (g0 : cellsN w 0 0 8 = some (rowU 8 startF)) (g1 : cellsN w 1 0 160 = some (rowI 160 ordersF)) (g2 : cellsN w 2 0 32 = some (rowI 32 foursF)) (z0 : 0 < w.heap.size) (z1 : 1 < w.heap.size) (z2 : 2 < w.heap.size) :
    Calls Tryd.prog 84 #[.slice (some ⟨g, off, none⟩) n cap] w (Post w (.agg (rowB 32 (sumF f n)))) := by
  unfold maxLen at hcap
  go_enter Tryd.func84, Tryd.ntmps84
  go_wp2
  go_loopw [4] (fun i wr => ∃ k : Nat, 64 * k ≤ n ∧ (k = 0 ∨ 64 * k < n) ∧ i = .slice (some ⟨g, off + 64 * k, none⟩) (n - 64 * k) (cap - 64 * k) ∧ Ex ((w.alloc (.cells (rowB 32 fun _ => 0) 46)).alloc (.cells (rowU 8 (sumK f k)) 158)) wr) (fun i _ => match i with | .slice _ m _ => m | _ => 0)
  case atStart => exact ⟨0, by omega, Or.inl rfl, rfl, ex_refl _⟩
  case round =>
    obtain ⟨k, hk, hk2, rfl, X0, rfl⟩ := hrel
    by_cases hlt : 64 * k + 64 < n
    · generalize hH : sumK f k = H
      have hc1 := hc (64 * k) 64 (by omega)
      have e1 : 64 < n - 64 * k := by omega
      have e1' : (64 : Int) < ((n - 64 * k : Nat) : Int) := by omega
      have e2 : 64 ≤ n - 64 * k := by omega
      have e3 : (64 : Int) ≤ ((n - 64 * k : Nat) : Int) := by omega
      have e4 : (64 : Int) ≤ ((cap - 64 * k : Nat) : Int) := by omega
      have e5 : ((n - 64 * k : Nat) : Int) ≤ ((cap - 64 * k : Nat) : Int) := by omega
      obtain ⟨T, hT⟩ : ∃ T : Nat, 64 * k + 64 = T := ⟨_, rfl⟩
      go_wp2
      refine wp_region_mix [(0, true), (1, true), (2, true), (3, true), (4, true), (5, true), (6, true), (7, true), (8, true), (9, true), (10, true), (11, false)] 12 (by kernel_rfl) (by kernel_rfl) (fun _ _ d _ _ h => by cases d <;> exact h) ?_
      simp only [List.map_cons, List.map_nil, nth, List.drop_succ_cons, List.drop_zero]
      repeat (first | (refine wpMix_look ?_; go_big_quiet_step (fail); refine wpQuiet_nil ?_) | (refine wpMix_eff rfl (fun X1 => ?_); go_wp2_with (go_at_call 122; refine (block_at _ _ _ T (by omega) (by omega) _ _ (by simp [go_sem, *] <;> (intro hx; exfalso; omega)) (by simp [go_sem, *] <;> (intro hx; exfalso; omega)) (by simp [go_sem, *] <;> (intro hx; exfalso; omega)) (by simp [go_sem] <;> omega) (by simp [go_sem] <;> omega) (by simp [go_sem] <;> omega)).mono ?_; rintro e w' ⟨rfl, X, rfl⟩); refine mixQ_mk (by first | exact ex_refl _ | exact ⟨_, rfl⟩ | exact ex_app _ _ _ | (simp only [wx_wx, wx_drew]; first | exact ex_refl _ | exact ex_app _ _ _ | exact ⟨_, rfl⟩) | (repeat (first | exact ex_refl _ | refine ex_drew ?_ | refine ex_alloc ?_ _ | refine ex_wx ?_ _))) ?_))
      refine wpMix_nil (fun X2 => ?_)
      go_wp2
      refine ⟨⟨k + 1, by omega, Or.inr (by omega), ?_, ?_⟩, ?_⟩
      · rw [show 64 * (k + 1) = 64 * k + 64 by omega, Nat.sub_sub, Nat.sub_sub, ← Nat.add_assoc]
      · have e : sumK f (k + 1) = blockF H (shiftF f (64 * k)) (UInt64.ofNat T) false := by rw [← hH, ← hT]; rfl
        rw [e]
        repeat (first | exact ex_refl _ | refine ex_appR ?_ _ | refine ex_wx ?_ _ | refine ex_drew ?_)
      · show n - 64 * k - 64 < n - 64 * k
        omega
    · have hkl : lastK n = k := by unfold lastK; omega
      have eS : sumU f n = blockF (sumK f k) (tailF f n k) (UInt64.ofNat n) true := by unfold sumU; rw [hkl]
      generalize sumK f k = H at eS ⊢
      obtain ⟨r, hr⟩ : ∃ r, n - 64 * k = r := ⟨_, rfl⟩
      obtain ⟨c2, hc2⟩ : ∃ c2, cap - 64 * k = c2 := ⟨_, rfl⟩
      have hc1 := hc (64 * k) r (by omega)
      have e1 : ¬ 64 < r := by omega
      have e1' : ¬ (64 : Int) < ((r : Nat) : Int) := by omega
      have e2 : min r 64 = r := by omega
      have eT : tailF f n k = over (fun _ => 0) 0 r (shiftF f (64 * k)) := by unfold tailF; rw [hr]
      rw [eT] at eS
      rw [hr, hc2]
      clear hc eT hr hc2 hkl
      go_wp2_with (go_at_call 122; refine (block_at _ _ _ n (by omega) (by omega) _ _ (by simp [go_sem, *] <;> (intro hx; exfalso; omega)) (by simp [go_sem, *] <;> (intro hx; exfalso; omega)) (by simp [go_sem, *] <;> (intro hx; exfalso; omega)) (by simp [go_sem] <;> omega) (by simp [go_sem] <;> omega) (by simp [go_sem] <;> omega)).mono ?_; rintro e w' ⟨rfl, X, rfl⟩)
      have eF : sumF f n = byteF (sumU f n) := rfl
      rw [← eS]
      generalize sumU f n = S at eF ⊢
      clear eS
      go_loopw [39] (fun i wr => ∃ j : Nat, j ≤ 32 ∧ i = .int .i64 j ∧ ∃ G : Nat → UInt8, (∀ i, G i = if i < j then byteF S i else 0) ∧ Ex ((w.alloc (.cells (rowB 32 G) 46)).alloc (.cells (rowU 8 S) 158)) wr) (fun i _ => 32 - (intOf i).toNat)
      case atStart => exact ⟨0, by omega, rfl, fun _ => 0, fun i => by rw [if_neg (by omega)], by repeat (first | exact ex_refl _ | refine ex_appR ?_ _ | refine ex_drew ?_ | refine ex_alloc ?_ _ | refine ex_wx ?_ _)⟩
      case round =>
        obtain ⟨j, hj, rfl, G, hG, X9, rfl⟩ := hrel
        by_cases hlt : j < 32
        · go_wp2
          have eb : un (S (j / 4)) / 2 ^ (8 * (j % 4)) % 256 = bn (byteF S j) := by
            rw [un_shr _ _ (by omega)]; exact un_byte _
          rw [eb, rowB_set]
          refine ⟨⟨j + 1, by omega, by go_num, upd G j (byteF S j), fun i => ?_, by repeat (first | exact ex_refl _ | refine ex_appR ?_ _ | refine ex_drew ?_ | refine ex_wx ?_ _)⟩, by simp [intOf]; omega⟩
          unfold upd
          by_cases hij : i = j
          · subst hij; rw [if_pos rfl, if_pos (by omega)]
          · rw [if_neg hij, hG]
            by_cases h2 : i < j
            · rw [if_pos h2, if_pos (by omega)]
            · rw [if_neg h2, if_neg (by omega)]
        · obtain rfl : j = 32 := by omega
          clear hlt hj
          have hR : rowB 32 G = rowB 32 (byteF S) := rowB_congr fun i hi => by rw [hG, if_pos hi]
          simp only [hR]
          clear hR hG
          go_wp2
          exact ret_row (cs := rowB 32 (byteF S)) Tryd.results84 Tryd.underlying46 rfl info_id rfl (by simp [go_sem]) rfl (post_mk (by rw [eF]) (by repeat (first | exact ex_refl _ | refine ex_appR ?_ _ | refine ex_drew ?_ | refine ex_alloc ?_ _ | refine ex_wx ?_ _)))
set_option maxHeartbeats 2000000 in
theorem sum_zero (a : Option Addr) (cap : Nat) (f : Nat → UInt8) (w : World) (hcap : cap ≤ maxLen)
    (g0 : cellsN w 0 0 8 = some (rowU 8 startF)) (g1 : cellsN w 1 0 160 = some (rowI 160 ordersF)) (g2 : cellsN w 2 0 32 = some (rowI 32 foursF)) (z0 : 0 < w.heap.size) (z1 : 1 < w.heap.size) (z2 : 2 < w.heap.size) :
    Calls Tryd.prog 84 #[.slice a 0 cap] w (Post w (.agg (rowB 32 (sumF f 0)))) := by
  unfold maxLen at hcap
  go_enter Tryd.func84, Tryd.ntmps84
  go_wp2
  go_loopw [4] (fun i wr => i = .slice a 0 cap ∧ wr = ((w.alloc (.cells (rowB 32 fun _ => 0) 46)).alloc (.cells (rowU 8 (sumK f 0)) 158))) (fun i _ => 0)
  case atStart => exact ⟨rfl, rfl⟩
  case round =>
    obtain ⟨rfl, rfl⟩ := hrel
    have eS : sumU f 0 = blockF (sumK f 0) (fun _ => 0) 0 true := by
      unfold sumU tailF
      rw [show lastK 0 = 0 from rfl]
      congr 1
    generalize sumK f 0 = H at eS ⊢
    go_wp2_with (go_at_call 122; refine (block_at _ _ _ 0 (by omega) (by omega) _ _ (by simp [go_sem, *] <;> (intro hx; exfalso; omega)) (by simp [go_sem, *] <;> (intro hx; exfalso; omega)) (by simp [go_sem, *] <;> (intro hx; exfalso; omega)) (by simp [go_sem] <;> omega) (by simp [go_sem] <;> omega) (by simp [go_sem] <;> omega)).mono ?_; rintro e w' ⟨rfl, X, rfl⟩)
    have eF : sumF f 0 = byteF (sumU f 0) := rfl
    rw [← eS]
    generalize sumU f 0 = S at eF ⊢
    clear eS
    go_loopw [39] (fun i wr => ∃ j : Nat, j ≤ 32 ∧ i = .int .i64 j ∧ ∃ G : Nat → UInt8, (∀ i, G i = if i < j then byteF S i else 0) ∧ Ex ((w.alloc (.cells (rowB 32 G) 46)).alloc (.cells (rowU 8 S) 158)) wr) (fun i _ => 32 - (intOf i).toNat)
    case atStart => exact ⟨0, by omega, rfl, fun _ => 0, fun i => by rw [if_neg (by omega)], by repeat (first | exact ex_refl _ | refine ex_appR ?_ _ | refine ex_drew ?_ | refine ex_alloc ?_ _ | refine ex_wx ?_ _)⟩
    case round =>
      obtain ⟨j, hj, rfl, G, hG, X9, rfl⟩ := hrel
      by_cases hlt : j < 32
      · go_wp2
        have eb : un (S (j / 4)) / 2 ^ (8 * (j % 4)) % 256 = bn (byteF S j) := by
          rw [un_shr _ _ (by omega)]; exact un_byte _
        rw [eb, rowB_set]
        refine ⟨⟨j + 1, by omega, by go_num, upd G j (byteF S j), fun i => ?_, by repeat (first | exact ex_refl _ | refine ex_appR ?_ _ | refine ex_drew ?_ | refine ex_wx ?_ _)⟩, by simp [intOf]; omega⟩
        unfold upd
        by_cases hij : i = j
        · subst hij; rw [if_pos rfl, if_pos (by omega)]
        · rw [if_neg hij, hG]
          by_cases h2 : i < j
          · rw [if_pos h2, if_pos (by omega)]
          · rw [if_neg h2, if_neg (by omega)]
      · obtain rfl : j = 32 := by omega
        clear hlt hj
        have hR : rowB 32 G = rowB 32 (byteF S) := rowB_congr fun i hi => by rw [hG, if_pos hi]
        simp only [hR]
        clear hR hG
        go_wp2
        exact ret_row (cs := rowB 32 (byteF S)) Tryd.results84 Tryd.underlying46 rfl info_id rfl (by simp [go_sem]) rfl (post_mk (by rw [eF]) (by repeat (first | exact ex_refl _ | refine ex_appR ?_ _ | refine ex_drew ?_ | refine ex_alloc ?_ _ | refine ex_wx ?_ _)))
/-- **Of whatever slice.** -/
theorem sum_any (a : Option Addr) (n cap : Nat) (f : Nat → UInt8) (w : World) (hn : n ≤ cap) (hcap : cap ≤ maxLen) (hn48 : n ≤ 281474976710656) (hs : SlB w a n f)
    (g0 : cellsN w 0 0 8 = some (rowU 8 startF)) (g1 : cellsN w 1 0 160 = some (rowI 160 ordersF)) (g2 : cellsN w 2 0 32 = some (rowI 32 foursF)) (z0 : 0 < w.heap.size) (z1 : 1 < w.heap.size) (z2 : 2 < w.heap.size) :
    Calls Tryd.prog 84 #[.slice a n cap] w (Post w (.agg (rowB 32 (sumF f n)))) := by
  rcases Nat.eq_zero_or_pos n with h | h
  · subst h; exact sum_zero a cap f w hcap g0 g1 g2 z0 z1 z2
  · obtain ⟨g, off, rfl, hg, hc⟩ := hs.pos h
    exact sum_some g off n cap f w hn hcap hg (SlB.cells hc) g0 g1 g2 z0 z1 z2
end Go.Proofs.YtcdocklbpfdmeaaDoor

/- The package's variables; Sum, Block in whatever later world. -/
set_option linter.unusedSimpArgs false
set_option linter.unusedVariables false
set_option maxRecDepth 20000
namespace Go.Proofs.YtcdocklbpfdmeaaDoor
open Go.RowKit
/-- The package's variables. -/
structure Glob (w : World) : Prop where
  g0 : cellsN w 0 0 8 = some (rowU 8 startF)
  g1 : cellsN w 1 0 160 = some (rowI 160 ordersF)
  g2 : cellsN w 2 0 32 = some (rowI 32 foursF)
  z0 : 0 < w.heap.size
  z1 : 1 < w.heap.size
  z2 : 2 < w.heap.size
theorem Glob.wx {w : World} (h : Glob w) (X : More) : Glob (wx w X) := by
  obtain ⟨g0, g1, g2, z0, z1, z2⟩ := h
  exact ⟨by simp [go_sem, g0, z0], by simp [go_sem, g1, z1], by simp [go_sem, g2, z2], by simp [go_sem]; omega, by simp [go_sem]; omega, by simp [go_sem]; omega⟩
theorem Glob.ex {w w' : World} (h : Glob w) (k : Ex w w') : Glob w' := by
  obtain ⟨X, rfl⟩ := k; exact h.wx X
theorem sum_glob {w w' : World} (G : Glob w) (k : Ex w w') (a : Option Addr) (n cap : Nat) (f : Nat → UInt8) (hn : n ≤ cap) (hcap : cap ≤ maxLen) (hn48 : n ≤ 281474976710656) (hs : SlB w' a n f) :
    Calls Tryd.prog 84 #[.slice a n cap] w' (Post w' (.agg (rowB 32 (sumF f n)))) := by
  have G' := G.ex k
  exact sum_any a n cap f w' hn hcap hn48 hs G'.g0 G'.g1 G'.g2 G'.z0 G'.z1 G'.z2
theorem block_glob {w w' : World} (G : Glob w) (k : Ex w w') (H : Nat → UInt32) (b : Nat → UInt8) (t : UInt64) (last : Bool) :
    Calls Tryd.prog 122 #[.agg (rowU 8 H), .agg (rowB 64 b), L t, .bool last] w' (Post w' (.agg (rowU 8 (blockF H b t last)))) := by
  have G' := G.ex k
  exact block_any H b t last w' G'.g0 G'.g1 G'.g2 G'.z0 G'.z1 G'.z2
end Go.Proofs.YtcdocklbpfdmeaaDoor
