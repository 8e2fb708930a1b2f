import Derived.Test.YtabjamkkhlbajaaDoorMTypes
import Derived.Test.YtabjamkkhlbajaaDoorMWords
import Derived.BigRegion

/- Blake: small functions. -/
set_option linter.unusedSimpArgs false
set_option linter.unusedVariables false
set_option maxRecDepth 20000
namespace Go.Proofs.YtabjamkkhlbajaaDoor
open Go.RowKit

/-- Four bytes as a number, the lowest first; the first k of them. -/
def leK (f : Nat → UInt8) : Nat → UInt32
  | 0 => 0
  | k + 1 => leK f k ||| (f k).toUInt32 <<< UInt32.ofNat (8 * k)
theorem shl_step (x : UInt32) (k : Nat) (hk : k < 4) : IntKind.u32.wrap (un x * 2 ^ (8 * k)) = un (x <<< UInt32.ofNat (8 * k)) := un_shl x (8 * k) (by omega)

set_option maxHeartbeats 400000 in
theorem little_any (g off len cap : Nat) (f : Nat → UInt8) (w : World) (hl : 4 ≤ len) (hm : len ≤ maxLen) (hc : ∀ j, j < 4 → w.cell? ⟨g, off + j, none⟩ = some (B (f j))) :
    Calls Tryd.prog 81 #[.slice (some ⟨g, off, none⟩) len cap] w fun e w' => e = .returned (U (leK f 4)) ∧ w = w' := by
  unfold maxLen at hm
  go_enter Tryd.func81, Tryd.ntmps81
  go_wp2
  go_loop [2, 4] (fun x i => ∃ k : Nat, k ≤ 4 ∧ i = .int .i64 k ∧ x = U (leK f k)) (fun _ i => 4 - (intOf i).toNat)
  case atStart => exact ⟨0, by omega, rfl, rfl⟩
  case round =>
    obtain ⟨k, hk, rfl, rfl⟩ := hrel
    by_cases hlt : k < 4
    · have h1 := hc k hlt
      go_wp2
      have h3 := shl_step (f k).toUInt32 k hlt
      rw [IntKind.wrap_u32] at h3
      refine ⟨⟨k + 1, by omega, by go_num, ?_⟩, by simp [intOf]; omega⟩
      rw [h3, un_or]; rfl
    · obtain rfl : k = 4 := by omega
      go_wp2
      go_ret
      exact ⟨rfl, rfl⟩

/-- The first numbers. -/
def startF : Nat → UInt32
  | 0 => 0x6A09E667 | 1 => 0xBB67AE85 | 2 => 0x3C6EF372 | 3 => 0xA54FF53A | 4 => 0x510E527F | 5 => 0x9B05688C | 6 => 0x1F83D9AB | 7 => 0x5BE0CD19 | _ => 0
end Go.Proofs.YtabjamkkhlbajaaDoor

/- Strings of digits to the base 16: places, one by one; Digit, Order. -/
set_option linter.unusedSimpArgs false
set_option linter.unusedVariables false
set_option maxRecDepth 20000
namespace Go.Proofs.YtabjamkkhlbajaaDoor
open Go.RowKit

/-- The orders, the fours: place by place. -/
def ordersN : List Nat := [0, 1, 2, 3, 4, 5, 6, 7, 8, 9, 10, 11, 12, 13, 14, 15, 14, 10, 4, 8, 9, 15, 13, 6, 1, 12, 0, 2, 11, 7, 5, 3, 11, 8, 12, 0, 5, 2, 15, 13, 10, 14, 3, 6, 7, 1, 9, 4, 7, 9, 3, 1, 13, 12, 11, 14, 2, 6, 5, 10, 4, 0, 15, 8, 9, 0, 5, 7, 2, 4, 10, 15, 14, 1, 11, 12, 6, 8, 3, 13, 2, 12, 6, 10, 0, 11, 8, 3, 4, 13, 7, 5, 15, 14, 1, 9, 12, 5, 1, 15, 14, 13, 4, 10, 0, 7, 6, 3, 9, 2, 8, 11, 13, 11, 7, 14, 12, 1, 3, 9, 5, 0, 15, 4, 8, 6, 2, 10, 6, 15, 14, 9, 11, 3, 0, 8, 12, 2, 13, 7, 1, 4, 10, 5, 10, 2, 8, 4, 7, 6, 1, 5, 15, 11, 9, 14, 3, 12, 13, 0]
def foursN : List Nat := [0, 4, 8, 12, 1, 5, 9, 13, 2, 6, 10, 14, 3, 7, 11, 15, 0, 5, 10, 15, 1, 6, 11, 12, 2, 7, 8, 13, 3, 4, 9, 14]
def ordersF (i : Nat) : Int := (ordersN.getD i 0 : Nat)
def foursF (i : Nat) : Int := (foursN.getD i 0 : Nat)
theorem ord_lt (i : Nat) : ordersN.getD i 0 < 16 := by
  by_cases h : i < 160
  · exact (by decide : ∀ i : Fin 160, ordersN.getD i 0 < 16) ⟨i, h⟩
  · rw [List.getD_eq_getElem?_getD, List.getElem?_eq_none (by simp [ordersN]; omega)]; decide
theorem four_lt (i : Nat) : foursN.getD i 0 < 16 := by
  by_cases h : i < 32
  · exact (by decide : ∀ i : Fin 32, foursN.getD i 0 < 16) ⟨i, h⟩
  · rw [List.getD_eq_getElem?_getD, List.getElem?_eq_none (by simp [foursN]; omega)]; decide

/-- The digit of a place. -/
def dig (n : Nat) : UInt8 := if n < 10 then UInt8.ofNat (48 + n) else UInt8.ofNat (87 + n)
/-- A text of digits. -/
def strD (n : Nat) (p : Nat → Nat) : ByteArray := ⟨((List.range n).map fun i => dig (p i)).toArray⟩
theorem strD_size (n : Nat) (p : Nat → Nat) : (strD n p).size = n := by simp [strD, ByteArray.size]
theorem strD_at (n : Nat) (p : Nat → Nat) (i : Nat) (h : i < (strD n p).size) : (strD n p)[i] = dig (p i) := by
  have h2 : i < (strD n p).data.size := h
  have : (strD n p).data[i] = dig (p i) := by simp [strD]
  exact this
theorem index_strD {P : Program} {t : TypeId} (hu : P.underlying t = some .string) (n : Nat) (p : Nat → Nat) (i : Int) (w : World) :
    (Instr.index t (.string (strD n p)) (.int .i64 i)).run P w = if 0 ≤ i ∧ i < n then .ok (.int .u8 (bn (dig (p i.toNat)))) w else idxRaw P t (.string (strD n p)) (.int .i64 i) w := by
  split
  · rename_i h
    rw [run_index_string w t (strD n p) .i64 i hu, dif_pos (by rw [strD_size]; exact h)]
    congr 2
    unfold bn
    rw [strD_at]
  · rfl
@[go_sem high] theorem index_strD' (n : Nat) (p : Nat → Nat) (i : Int) (w : World) :
    (Instr.index 9 (.string (strD n p)) (.int .i64 i)).run Tryd.prog w = if 0 ≤ i ∧ i < n then .ok (.int .u8 (bn (dig (p i.toNat)))) w else idxRaw Tryd.prog 9 (.string (strD n p)) (.int .i64 i) w := index_strD Tryd.underlying9 n p i w
end Go.Proofs.YtabjamkkhlbajaaDoor

/- What a block's numbers become: in plain Lean, and the mixing over rows. -/
set_option linter.unusedSimpArgs false
set_option linter.unusedVariables false
set_option maxRecDepth 20000
namespace Go.Proofs.YtabjamkkhlbajaaDoor
open Go.RowKit

/-- Four numbers that are mixed, place by place. -/
def mixL (a b c d x y : UInt32) : Nat → UInt32 := fun k => (mix4 a b c d x y).getD k 0
theorem mix_rowed (a b c d x y : UInt32) (w : World) :
    Calls Tryd.prog 82 #[.agg #[U a, U b, U c, U d], U x, U y] w (Post w (.agg (rowU 4 (mixL a b c d x y)))) := mix_any a b c d x y w
/-- The first k of them laid back. -/
def stepK (v : Nat → UInt32) (p : Nat → Nat) (l : Nat → UInt32) : Nat → (Nat → UInt32)
  | 0 => v
  | k + 1 => upd (stepK v p l k) (p k) (l k)
/-- One mixing of sixteen numbers. -/
def step (v : Nat → UInt32) (p : Nat → Nat) (x y : UInt32) : Nat → UInt32 := stepK v p (mixL (v (p 0)) (v (p 1)) (v (p 2)) (v (p 3)) x y) 4
/-- The first i mixings of a round; the first n rounds. -/
def rndI (m : Nat → UInt32) (s : Nat → Nat) (v : Nat → UInt32) : Nat → (Nat → UInt32)
  | 0 => v
  | i + 1 => step (rndI m s v i) (fun k => foursN.getD (i * 4 + k) 0) (m (s (2 * i))) (m (s (2 * i + 1)))
def rndN (m : Nat → UInt32) (v : Nat → UInt32) : Nat → (Nat → UInt32)
  | 0 => v
  | n + 1 => rndI m (fun j => ordersN.getD (n * 16 + j) 0) (rndN m v n) 8
/-- What is mixed first. -/
def v0F (h : Nat → UInt32) (t : UInt64) (last : Bool) : Nat → UInt32 :=
  let v := over (over (fun _ => 0) 0 8 h) 8 8 startF
  let v1 := upd v 12 (v 12 ^^^ t.toUInt32)
  let v2 := upd v1 13 (v1 13 ^^^ (t >>> 32).toUInt32)
  if last then upd v2 14 (~~~ v2 14) else v2
def wordsF (b : Nat → UInt8) : Nat → UInt32 := fun j => leK (shiftF b (4 * j)) 4
def blockF (h : Nat → UInt32) (b : Nat → UInt8) (t : UInt64) (last : Bool) : Nat → UInt32 :=
  let v := rndN (wordsF b) (v0F h t last) 10
  fun i => h i ^^^ (v i ^^^ v (i + 8))

/-- A row of places. -/
def natI (s : Nat → Nat) : Nat → Int := fun j => (s j : Nat)
@[go_sem] theorem natI_at (s : Nat → Nat) (j : Nat) : natI s j = (s j : Nat) := rfl
theorem ordersF_shift (n : Nat) : shiftF ordersF (n * 16) = natI (fun j => ordersN.getD (n * 16 + j) 0) := rfl
theorem foursF_shift (n : Nat) : shiftF foursF (n * 4) = natI (fun j => foursN.getD (n * 4 + j) 0) := rfl

end Go.Proofs.YtabjamkkhlbajaaDoor

/- A digest, in plain Lean. -/
set_option linter.unusedSimpArgs false
set_option linter.unusedVariables false
set_option maxRecDepth 20000
namespace Go.Proofs.YtabjamkkhlbajaaDoor
/-- The numbers ahead of the first block; behind k blocks that are not the last. -/
def sumK (f : Nat → UInt8) : Nat → (Nat → UInt32)
  | 0 => upd startF 0 (startF 0 ^^^ 16842784)
  | k + 1 => blockF (sumK f k) (shiftF f (64 * k)) (UInt64.ofNat (64 * k + 64)) false
/-- How many blocks stand ahead of the last. -/
def lastK (n : Nat) : Nat := (n - 1) / 64
def tailF (f : Nat → UInt8) (n k : Nat) : Nat → UInt8 := over (fun _ => 0) 0 (n - 64 * k) (shiftF f (64 * k))
def sumU (f : Nat → UInt8) (n : Nat) : Nat → UInt32 := blockF (sumK f (lastK n)) (tailF f n (lastK n)) (UInt64.ofNat n) true
/-- The bytes of numbers. -/
def byteF (h : Nat → UInt32) : Nat → UInt8 := fun i => (h (i / 4) >>> UInt32.ofNat (8 * (i % 4))).toUInt8
def sumF (f : Nat → UInt8) (n : Nat) : Nat → UInt8 := byteF (sumU f n)
end Go.Proofs.YtabjamkkhlbajaaDoor

/- Block of the program: what it does. -/
set_option linter.unusedSimpArgs false
set_option linter.unusedVariables false
set_option maxRecDepth 20000
namespace Go.Proofs.YtabjamkkhlbajaaDoor
open Go.RowKit

/-- The variables of Block. -/
abbrev blkW (w : World) (h : Nat → UInt32) (b : Nat → UInt8) (v m : Nat → UInt32) : World :=
  ((((w.alloc (.cells (rowU 8 h) 114)).alloc (.cells (rowB 64 b) 74)).alloc (.cells (rowU 8 fun _ => 0) 114)).alloc (.cells (rowU 16 v) 127)).alloc (.cells (rowU 16 m) 127)

set_option maxHeartbeats 2000000 in
theorem block_any (H : Nat → UInt32) (b : Nat → UInt8) (t : UInt64) (last : Bool) (w : World) (g0 : cellsN w 0 0 8 = some (rowU 8 startF)) (g1 : cellsN w 1 0 160 = some (rowI 160 ordersF)) (g2 : cellsN w 2 0 32 = some (rowI 32 foursF)) (z0 : 0 < w.heap.size) (z1 : 1 < w.heap.size) (z2 : 2 < w.heap.size) :
    Calls Tryd.prog 73 #[.agg (rowU 8 H), .agg (rowB 64 b), L t, .bool last] w (Post w (.agg (rowU 8 (blockF H b t last)))) := by
  go_enter Tryd.func73, Tryd.ntmps73
  go_wp2
  go_loopw [20] (fun i wr => ∃ k : Nat, k ≤ 16 ∧ i = .int .i64 k ∧ ∃ m, (∀ j, j < k → m j = leK (shiftF b (4 * j)) 4) ∧ wr = blkW w H b (fun _ => 0) m) (fun i _ => 16 - (intOf i).toNat)
  case atStart => exact ⟨0, by omega, rfl, _, fun j hj => by omega, rfl⟩
  case round =>
    obtain ⟨k, hk, rfl, m, hm, rfl⟩ := hrel
    by_cases hlt : k < 16
    · have hs : 4 * (k : Int) ≤ 64 := by omega
      have hs0 : 0 ≤ 4 * (k : Int) := by omega
      go_wp2_with (go_at_call 81; refine (little_any _ _ _ _ (shiftF b (4 * k)) _ (by omega) (by unfold maxLen; omega) (fun j hj => ?_)).mono ?_)
      · have h1 : 4 * k + j < 64 := by omega
        simp [go_sem, h1, shiftF]
      rintro e w' ⟨rfl, rfl⟩
      go_wp2
      refine ⟨⟨k + 1, by omega, by go_num, upd m k (leK (shiftF b (4 * k)) 4), fun j hj => ?_, rfl⟩, by simp [intOf]; omega⟩
      unfold upd
      by_cases hjk : j = k
      · subst hjk; rw [if_pos rfl]
      · rw [if_neg hjk]; exact hm j (by omega)
    · obtain rfl : k = 16 := by omega
      clear hlt hk
      have hmw : rowU 16 m = rowU 16 (wordsF b) := rowU_congr hm
      simp only [blkW, hmw, Int.cast_ofNat_Int]
      clear hm hmw m
      have eB : blockF H b t last = fun i => H i ^^^ (rndN (wordsF b) (v0F H t last) 10 i ^^^ rndN (wordsF b) (v0F H t last) 10 (i + 8)) := rfl
      obtain ⟨v0, hv0⟩ : ∃ v0, v0F H t last = v0 := ⟨_, rfl⟩
      rw [hv0] at eB
      cases last
      all_goals
        go_wp2
        go_region
        go_wp2
        go_loopw [55] (fun i wr => ∃ n : Nat, n ≤ 10 ∧ i = .int .i64 n ∧ Ex (blkW w H b (rndN (wordsF b) (v0) n) (wordsF b)) wr) (fun i _ => 10 - (intOf i).toNat)
        case atStart => exact ⟨0, by omega, rfl, by subst hv0; first | exact ex_refl _ | exact ex_drew (ex_refl _)⟩
        case round =>
          obtain ⟨n, hn, rfl, X0, rfl⟩ := hrel
          by_cases hlt : n < 10
          · generalize hv : rndN (wordsF b) (v0) n = v
            go_wp2
            rw [ordersF_shift]
            have hlt' : ((n : Nat) : Int) < 10 := by omega
            simp only [hlt', decide_true]
            obtain ⟨s, hs⟩ : ∃ s : Nat → Nat, s = fun j => ordersN.getD (n * 16 + j) 0 := ⟨_, rfl⟩
            rw [← hs]
            have hsl : ∀ j, s j < 16 := by subst hs; exact fun j => ord_lt _
            have en : rndI (wordsF b) s v 8 = rndN (wordsF b) (v0) (n + 1) := by subst hs; subst hv; rfl
            clear hs hv
            go_loopw [59] (fun i wr => ∃ k : Nat, k ≤ 8 ∧ i = .int .i64 k ∧ Ex ((wx (blkW w H b (rndI (wordsF b) s v k) (wordsF b)) X0).alloc (.cells (rowI 16 (natI s)) 129)) wr) (fun i _ => 8 - (intOf i).toNat)
            case atStart => exact ⟨0, by omega, rfl, ex_refl _⟩
            case round =>
              obtain ⟨k, hk, rfl, X9, rfl⟩ := hrel
              by_cases hlt : k < 8
              · generalize hu : rndI (wordsF b) s v k = u
                go_wp2
                rw [foursF_shift]
                obtain ⟨p, hp⟩ : ∃ p : Nat → Nat, p = fun j => foursN.getD (k * 4 + j) 0 := ⟨_, rfl⟩
                rw [← hp]
                have hpl : ∀ j, p j < 16 := by subst hp; exact fun j => four_lt _
                have eu : step u p (wordsF b (s (2 * k))) (wordsF b (s (2 * k + 1))) = rndI (wordsF b) s v (k + 1) := by subst hu; subst hp; rfl
                clear hp hu
                have q0 : ((p 0 : Nat) : Int) < 16 := by have := hpl 0; omega
                have q1 : ((p 1 : Nat) : Int) < 16 := by have := hpl 1; omega
                have q2 : ((p 2 : Nat) : Int) < 16 := by have := hpl 2; omega
                have q3 : ((p 3 : Nat) : Int) < 16 := by have := hpl 3; omega
                have s0 : ((s (2 * k) : Nat) : Int) < 16 := by have := hsl (2 * k); omega
                have s1 : ((s (2 * k + 1) : Nat) : Int) < 16 := by have := hsl (2 * k + 1); omega
                refine wp_region_late [(0, true), (1, true), (2, true), (3, true), (4, true), (5, true), (6, true), (7, true), (8, true), (9, true), (10, true), (11, true), (12, true), (13, true), (14, true), (15, true), (16, true), (17, true), (18, true), (19, true), (20, true), (21, true), (22, true), (23, true), (24, true), (25, true), (26, true), (27, true), (28, true), (29, true), (30, false)] 32 [(31, some 16, (.cells (rowU 4 fun _ => 0) 133))] (by kernel_rfl) (by kernel_rfl) rfl (by intro x hx ρ W; simp only [List.mem_cons, List.not_mem_nil, or_false] at hx; repeat (first | subst hx | (rcases hx with rfl | hx)); all_goals (first | (simp [nth, go_sem, ptr]; done) | (simp [nth, go_sem, ptr]; rfl))) (fun _ _ d _ _ h => by cases d <;> exact h) (fun _ _ d _ _ h => by cases d <;> exact h) ?_
                simp only [List.map_cons, List.map_nil, nth, List.drop_succ_cons, List.drop_zero, lateR]
                repeat (first | (refine wpMix_look ?_; go_big_quiet_step (fail); refine wpQuiet_nil ?_) | (refine wpMix_eff rfl (fun X1 => ?_); go_wp2_with (go_at_call 82; refine (mix_rowed _ _ _ _ _ _ _).mono ?_; rintro e w' ⟨rfl, X, rfl⟩); refine mixQ_mk (by first | exact ex_refl _ | exact ⟨_, rfl⟩ | exact ex_app _ _ _ | (simp only [wx_wx, wx_drew]; first | exact ex_refl _ | exact ex_app _ _ _ | exact ⟨_, rfl⟩) | (repeat (first | exact ex_refl _ | refine ex_drew ?_ | refine ex_alloc ?_ _ | refine ex_wx ?_ _))) ?_))
                refine wpMix_nil (fun X2 => ?_)
                intro q hq
                simp only [wx_wx, wx_heap_more, ptr] at hq ⊢
                generalize (X1.app X).app X2 = Y at hq ⊢
                clear X X2
                go_wp2
                generalize hl : mixL (u (p 0)) (u (p 1)) (u (p 2)) (u (p 3)) (wordsF b (s (2 * k))) (wordsF b (s (2 * k + 1))) = l
                obtain ⟨Z, hZ⟩ : ∃ Z, Z = Y.sets q 0 (rowU 4 l).toList := ⟨_, rfl⟩
                have hz : Z.at q = some (.cells (rowU 4 l) 133) := by subst hZ; simp [go_sem, hq]
                rw [← hZ]
                clear hZ hq
                have eu' : stepK u p l 4 = rndI (wordsF b) s v (k + 1) := by rw [← eu, ← hl]; rfl
                clear hl eu
                go_loopw [95] (fun i wr => ∃ j : Nat, j ≤ 4 ∧ i = .int .i64 j ∧ wr = wx ((wx ((wx (blkW w H b (stepK u p l j) (wordsF b)) X0).alloc (.cells (rowI 16 (natI s)) 129)) X9).alloc (.cells (rowI 4 (natI p)) 131)) Z) (fun i _ => 4 - (intOf i).toNat)
                case atStart => exact ⟨0, by omega, rfl, rfl⟩
                case round =>
                  obtain ⟨j, hj, rfl, rfl⟩ := hrel
                  by_cases hlt : j < 4
                  · have hpj : ((p j : Nat) : Int) < 16 := by have := hpl j; omega
                    have hpj' : ((p j : Nat)) < 16 := hpl j
                    go_wp2
                    refine ⟨⟨j + 1, by omega, by go_num, rfl⟩, by simp [intOf]; omega⟩
                  · obtain rfl : j = 4 := by omega
                    clear hlt hj
                    go_wp2
                    refine ⟨⟨k + 1, by omega, by go_num, ?_⟩, by simp [intOf]; omega⟩
                    try rw [eu']
                    repeat (first | exact ex_refl _ | refine ex_drew ?_ | refine ex_alloc ?_ _ | refine ex_wx ?_ _)
              · obtain rfl : k = 8 := by omega
                clear hlt hk
                go_wp2
                refine ⟨⟨n + 1, by omega, by go_num, ?_⟩, by simp [intOf]; omega⟩
                try rw [en]
                repeat (first | exact ex_refl _ | refine ex_drew ?_ | refine ex_alloc ?_ _ | refine ex_wx ?_ _)
          · obtain rfl : n = 10 := by omega
            clear hlt hn
            generalize hv : rndN (wordsF b) (v0) 10 = v
            clear hv0
            go_wp2
            go_loopw [107] (fun i wr => ∃ j : Nat, j ≤ 8 ∧ i = .int .i64 j ∧ ∃ G : Nat → UInt32, (∀ i, G i = if i < j then H i ^^^ (v i ^^^ v (i + 8)) else H i) ∧ Ex (blkW w G b v (wordsF b)) wr) (fun i _ => 8 - (intOf i).toNat)
            case atStart => exact ⟨0, by omega, rfl, H, fun i => by rw [if_neg (by omega)], by repeat (first | exact ex_refl _ | refine ex_drew ?_ | refine ex_alloc ?_ _ | refine ex_wx ?_ _)⟩
            case round =>
              obtain ⟨j, hj, rfl, G, hG, X9, rfl⟩ := hrel
              by_cases hlt : j < 8
              · go_wp2
                refine wp_region_mix [(0, true), (1, true), (2, true), (3, true), (4, true), (5, true), (6, true), (7, true), (8, true), (9, true), (10, true), (11, true), (12, true)] 13 (by kernel_rfl) (by kernel_rfl) (fun _ _ d _ _ h => by cases d <;> exact h) ?_
                simp only [List.map_cons, List.map_nil, nth, List.drop_succ_cons, List.drop_zero]
                repeat (first | (refine wpMix_look ?_; go_big_quiet_step (fail); refine wpQuiet_nil ?_) | (refine wpMix_eff rfl (fun X1 => ?_); go_wp2_with (fail); refine mixQ_mk (by first | exact ex_refl _ | exact ⟨_, rfl⟩ | exact ex_app _ _ _ | (simp only [wx_wx, wx_drew]; first | exact ex_refl _ | exact ex_app _ _ _ | exact ⟨_, rfl⟩) | (repeat (first | exact ex_refl _ | refine ex_drew ?_ | refine ex_alloc ?_ _ | refine ex_wx ?_ _))) ?_))
                refine wpMix_nil (fun X2 => ?_)
                go_wp2
                refine ⟨⟨j + 1, by omega, by go_num, upd G j (H j ^^^ (v j ^^^ v (j + 8))), fun i => ?_, ex_wx (ex_refl _) _⟩, by simp [intOf]; omega⟩
                unfold upd
                by_cases hij : i = j
                · subst hij; rw [if_pos rfl, if_pos (by omega)]
                · rw [if_neg hij, hG]
                  by_cases h2 : i < j
                  · rw [if_pos h2, if_pos (by omega)]
                  · rw [if_neg h2, if_neg (by omega)]
              · obtain rfl : j = 8 := by omega
                clear hlt hj
                have hR : rowU 8 G = rowU 8 fun i => H i ^^^ (v i ^^^ v (i + 8)) := rowU_congr fun i hi => by rw [hG, if_pos hi]
                simp only [blkW, hR]
                clear hR hG
                go_wp2
                exact ret_row (cs := rowU 8 fun i => H i ^^^ (v i ^^^ v (i + 8))) Tryd.results73 Tryd.underlying114 rfl info_a8u rfl (by simp [go_sem]) rfl (post_mk (by rw [eB, hv]) (by repeat (first | exact ex_refl _ | refine ex_drew ?_ | refine ex_alloc ?_ _ | refine ex_wx ?_ _)))
end Go.Proofs.YtabjamkkhlbajaaDoor

/- A list that only grows, under one digest: roots, paths, proofs, in plain Lean. -/
set_option linter.unusedSimpArgs false
set_option linter.unusedVariables false
namespace Go.Proofs.YtabjamkkhlbajaaDoor
/-! ### Digests -/
abbrev Dg := Vector UInt8 32
/-- A list of bytes as what stands at a place. -/
def gF (l : List UInt8) : Nat → UInt8 := fun i => l.getD i 0
def ofF (f : Nat → UInt8) : Dg := Vector.ofFn fun i : Fin 32 => f i.val
def dF (d : Dg) : Nat → UInt8 := fun i => d.toArray.getD i 0
def sumD (l : List UInt8) : Dg := ofF (sumF (gF l) l.length)
theorem dF_ofF (f : Nat → UInt8) (i : Nat) (h : i < 32) : dF (ofF f) i = f i := by
  simp [dF, ofF, Array.getD_eq_getD_getElem?, h]
def bytesD (d : Dg) : List UInt8 := (List.range 32).map (dF d)
theorem bytesD_len (d : Dg) : (bytesD d).length = 32 := by simp [bytesD]
/-! ### Halves -/
/-! ### Roots, paths, proofs -/
/-! ### Ways -/
/-! ### Both roots -/
end Go.Proofs.YtabjamkkhlbajaaDoor

/- The document's Block: what it does. -/
set_option linter.unusedSimpArgs false
set_option linter.unusedVariables false
set_option maxRecDepth 20000
namespace Go.Proofs.YtabjamkkhlbajaaDoor
open Go.RowKit
attribute [local go_sem] un_mul8 un_mul16 un_mul24
end Go.Proofs.YtabjamkkhlbajaaDoor

/- The log: the plain law. -/
set_option linter.unusedSimpArgs false
set_option linter.unusedVariables false
namespace Go.Proofs.YtabjamkkhlbajaaDoor
abbrev By := List UInt8
def hi4 (x : Nat) : By := [UInt8.ofNat (x / 16777216), UInt8.ofNat (x / 65536), UInt8.ofNat (x / 256), UInt8.ofNat x]
def num4 (l : By) : Nat := ((l.getD 0 0).toNat * 16777216 + (l.getD 1 0).toNat * 65536) + ((l.getD 2 0).toNat * 256 + (l.getD 3 0).toNat)
theorem num4_hi4 (x : Nat) (h : x < 4294967296) (r : By) : num4 (hi4 x ++ r) = x := by
  simp only [num4, hi4, List.cons_append, List.nil_append, List.getD_cons_zero, List.getD_cons_succ, UInt8.toNat_ofNat']
  omega
theorem hi4_len (x : Nat) : (hi4 x).length = 4 := rfl
theorem num4_lt (l : By) : num4 l < 4294967296 := by
  have h0 := (l.getD 0 0).toNat_lt
  have h1 := (l.getD 1 0).toNat_lt
  have h2 := (l.getD 2 0).toNat_lt
  have h3 := (l.getD 3 0).toNat_lt
  unfold num4; omega
/-- What a head says. -/
structure Cm where
  turn : Nat
  n : Nat
  side : Nat
  used : Nat
  all : Nat
  mark : By
def secs (n : Nat) : Nat := 1 + (n + 3) / 64
def tallyL : By := [116, 97, 108, 108, 121, 119, 97, 108]
/-- A head's bytes, ahead of its sign. -/
def signL (c : Cm) : By := tallyL ++ (hi4 c.turn ++ (hi4 c.n ++ (hi4 c.side ++ (hi4 c.used ++ (hi4 c.all ++ (c.mark ++ List.replicate 28 0))))))
def layB (H : By → By) (c : Cm) : Bk := ofBk (gF (signL c ++ H (signL c)))
def blkL (b : Bk) : By := b.toList
theorem blkL_len (b : Bk) : (blkL b).length = 64 := by simp [blkL]
theorem blkL_get (b : Bk) (i : Nat) : (blkL b).getD i 0 = bkF b i := by
  unfold blkL bkF
  rw [Array.getD_eq_getD_getElem?, List.getD_eq_getElem?_getD]
  simp
theorem blkL_of (l : By) (h : l.length = 64) : blkL (ofBk (gF l)) = l := by
  apply List.ext_getElem (by rw [blkL_len, h])
  intro i h1 h2
  have e := blkL_get (ofBk (gF l)) i
  rw [blkL_len] at h1
  rw [bkF_of _ _ h1, List.getD_eq_getElem?_getD, List.getElem?_eq_getElem (by rw [blkL_len]; exact h1)] at e
  unfold gF at e ⊢
  rw [List.getD_eq_getElem?_getD, List.getElem?_eq_getElem h2] at e
  exact e
def mayB (sz n : Nat) : Bool := decide (4 ≤ n) && decide (n ≤ 1000) && decide (2 + 2 * n ≤ sz)
/-- What stands in a sector, as a head. -/
def cmOf (b : Bk) : Cm := ⟨num4 ((blkL b).drop 8), num4 ((blkL b).drop 12), num4 ((blkL b).drop 16), num4 ((blkL b).drop 20), num4 ((blkL b).drop 24), ((blkL b).drop 28).take 4⟩
def rightC (sz at_ : Nat) (c : Cm) : Bool := decide (1 ≤ c.turn) && decide (c.turn ≤ 1073741824) && decide (c.turn % 2 = at_) && mayB sz c.n && decide (c.side ≤ 1) && decide (c.used ≤ c.n) && decide (1 ≤ c.all)
def readC (H : By → By) (sz at_ : Nat) (b : Bk) : Option Cm := if rightC sz at_ (cmOf b) = true ∧ layB H (cmOf b) = b then some (cmOf b) else none
/-- A sheet's bytes, its sectors. -/
def sheetL (b : By) : By := hi4 b.length ++ b
def padL (b : By) : By := sheetL b ++ List.replicate (64 * secs b.length - (4 + b.length)) 0
def sheetB (b : By) : List Bk := (List.range (secs b.length)).map fun i => ofBk fun j => (sheetL b).getD (64 * i + j) 0
theorem sheetB_len (b : By) : (sheetB b).length = secs b.length := by simp [sheetB]
theorem secs_fit (n : Nat) : 4 + n ≤ 64 * secs n := by unfold secs; omega
theorem secs_pos (n : Nat) : 1 ≤ secs n := by unfold secs; omega
theorem padL_len (b : By) : (padL b).length = 64 * secs b.length := by
  have := secs_fit b.length
  simp [padL, sheetL, hi4_len]; omega
theorem padL_get (b : By) (i : Nat) : (padL b).getD i 0 = (sheetL b).getD i 0 := by
  unfold padL
  rw [List.getD_eq_getElem?_getD, List.getD_eq_getElem?_getD]
  by_cases h : i < (sheetL b).length
  · rw [List.getElem?_append_left h]
  · rw [List.getElem?_append_right (by omega), List.getElem?_eq_none (l := sheetL b) (by omega)]
    by_cases h2 : i - (sheetL b).length < 64 * secs b.length - (4 + b.length)
    · rw [List.getElem?_replicate, if_pos h2]; rfl
    · rw [List.getElem?_replicate, if_neg h2]
theorem flat_blk : ∀ (k : Nat) (l : By), l.length = 64 * k → ((List.range k).map fun i => ofBk fun j => l.getD (64 * i + j) 0).flatMap blkL = l
  | 0, l, h => by rw [List.length_eq_zero_iff.1 (by omega : l.length = 0)]; rfl
  | k + 1, l, h => by
    rw [List.range_succ_eq_map, List.map_cons, List.flatMap_cons, List.map_map]
    have e1 : (ofBk fun j => l.getD (64 * 0 + j) 0) = ofBk (gF (l.take 64)) := bkF_inj fun i hi => by
      rw [bkF_of _ _ hi, bkF_of _ _ hi]
      unfold gF
      rw [List.getD_eq_getElem?_getD, List.getD_eq_getElem?_getD, List.getElem?_take_of_lt hi, Nat.mul_zero, Nat.zero_add]
    have e2 : ((fun i => ofBk fun j => l.getD (64 * i + j) 0) ∘ Nat.succ) = fun i => ofBk fun j => (l.drop 64).getD (64 * i + j) 0 := funext fun i => bkF_inj fun j hj => by
      show bkF (ofBk fun j => l.getD (64 * (i + 1) + j) 0) j = _
      rw [bkF_of _ _ hj, bkF_of _ _ hj, List.getD_eq_getElem?_getD, List.getD_eq_getElem?_getD, List.getElem?_drop, show 64 * (i + 1) + j = 64 + (64 * i + j) by omega]
    rw [e1, e2, blkL_of _ (by rw [List.length_take]; omega), flat_blk k _ (by rw [List.length_drop]; omega), List.take_append_drop]
theorem sheetB_flat (b : By) : (sheetB b).flatMap blkL = padL b := by
  refine Eq.trans ?_ (flat_blk (secs b.length) (padL b) (padL_len b))
  have e : (fun i => ofBk fun j => (sheetL b).getD (64 * i + j) 0) = (fun i => ofBk fun j => (padL b).getD (64 * i + j) 0) := funext fun i => by simp only [padL_get]
  unfold sheetB
  rw [e]
theorem padL_data (b : By) : ((padL b).drop 4).take b.length = b := by
  unfold padL sheetL
  rw [List.append_assoc, List.drop_append_of_le_length (by rw [hi4_len]; omega), List.drop_of_length_le (by rw [hi4_len]; omega), List.nil_append, List.take_append_of_le_length (by omega), List.take_of_length_le (by omega)]
/-- The sheets that stand in sectors. -/
def wholeP : Nat → List Bk → Option (List By)
  | _, [] => some []
  | 0, _ :: _ => none
  | f + 1, b :: r =>
    if 50000 < num4 (blkL b) ∨ r.length + 1 < secs (num4 (blkL b)) then none
    else if sheetB ((((((b :: r).take (secs (num4 (blkL b)))).flatMap blkL).drop 4).take (num4 (blkL b)))) = (b :: r).take (secs (num4 (blkL b))) then
      (wholeP f ((b :: r).drop (secs (num4 (blkL b))))).map (((((b :: r).take (secs (num4 (blkL b)))).flatMap blkL).drop 4).take (num4 (blkL b)) :: ·)
    else none
theorem sheetB_head (b : By) (h : b.length ≤ 50000) : ∃ x r, sheetB b = x :: r ∧ num4 (blkL x) = b.length := by
  have hl := sheetB_len b
  have hf := sheetB_flat b
  cases hs : sheetB b with
  | nil => rw [hs] at hl; have := secs_pos b.length; simp at hl; omega
  | cons x r =>
    refine ⟨x, r, rfl, ?_⟩
    have e : num4 (blkL x) = num4 (padL b) := by
      rw [← hf, hs, List.flatMap_cons]
      have hx := blkL_len x
      unfold num4
      simp only [List.getD_eq_getElem?_getD]
      rw [List.getElem?_append_left (by omega), List.getElem?_append_left (by omega), List.getElem?_append_left (by omega), List.getElem?_append_left (by omega)]
    rw [e]
    unfold padL sheetL
    rw [List.append_assoc, num4_hi4 _ (by omega)]
theorem whole_sheets : ∀ (l : List By) (f : Nat), (∀ b ∈ l, b.length ≤ 50000) → l.length ≤ f → wholeP f (l.flatMap sheetB) = some l
  | [], f, _, _ => by cases f <;> rfl
  | b :: l, 0, _, h => by simp at h
  | b :: l, f + 1, hb, h => by
    have h0 := hb b (by simp)
    obtain ⟨x, r, hs, hn⟩ := sheetB_head b h0
    have hlen := sheetB_len b
    rw [List.flatMap_cons, hs, List.cons_append]
    have ht : (x :: (r ++ l.flatMap sheetB)).take (secs b.length) = sheetB b := by rw [← List.cons_append, ← hs, List.take_append_of_le_length (by omega), List.take_of_length_le (by omega)]
    have hd : (x :: (r ++ l.flatMap sheetB)).drop (secs b.length) = l.flatMap sheetB := by rw [← List.cons_append, ← hs, List.drop_append_of_le_length (by omega), List.drop_of_length_le (by omega), List.nil_append]
    have hc : (((sheetB b).flatMap blkL).drop 4).take b.length = b := by rw [sheetB_flat, padL_data]
    unfold wholeP
    rw [hn, ht, hd, hc, if_neg, if_pos rfl, whole_sheets l f (fun x hx => hb x (by simp [hx])) (by simpa using h)]
    · rfl
    · have : (sheetB b).length = r.length + 1 := by rw [hs]; rfl
      rw [List.length_append]
      omega
def wholeW (l : List Bk) : Option (List By) := wholeP l.length l
theorem flatW_len (l : List By) : l.length ≤ (l.flatMap sheetB).length := by
  induction l with
  | nil => simp
  | cons b r ih =>
    have := secs_pos b.length
    rw [List.flatMap_cons, List.length_append, sheetB_len, List.length_cons]; omega
theorem wholeW_sheets {l : List By} (h : ∀ b ∈ l, b.length ≤ 50000) : wholeW (l.flatMap sheetB) = some l := whole_sheets l _ h (flatW_len l)
def markL (H : By → By) (l : List By) : By := l.foldl (fun m b => H (m ++ b)) [0, 0, 0, 0]
def bestC (a b : Option Cm) : Option Cm := match a, b with
  | none, b => b
  | some x, none => some x
  | some x, some y => if x.turn < y.turn then some y else some x
def goodC (H : By → By) (c : Cm) (l : List Bk) : Option (List By) := match wholeW l with
  | none => none
  | some sh => if sh.length = c.all ∧ markL H sh = c.mark ∧ c.turn ≠ 1073741824 then some sh else none
/-- Requests, one behind the other. -/
def thenD (r : Dk × Int) (f : Dk → Dk × Int) : Dk × Int := if r.2 = 0 then f r.1 else r
def writesD (d : Dk) (at_ : Int) : List Bk → Dk × Int
  | [] => (d, 0)
  | b :: r => thenD (writeD d at_ b) fun d => writesD d (at_ + 1) r
def headD (H : By → By) (d : Dk) (c : Cm) : Dk × Int := thenD (writesD d (c.turn % 2 : Nat) [layB H c]) syncD
/-- A log, but for its disk. -/
structure Wl where
  c : Cm
  sh : List By
  br : Bool
def firstC (H : By → By) (n : Nat) : Cm := ⟨1, n, 0, 1, 1, H [0, 0, 0, 0]⟩
def mayI (d : Dk) (n : Int) : Bool := decide (4 ≤ n) && decide (n ≤ 1000) && decide (2 + 2 * n ≤ d.has.length)
def fmtD (H : By → By) (d : Dk) (n : Nat) : Dk × Int :=
  thenD (thenD (thenD (thenD (writesD d 0 [zeroB, zeroB]) syncD) fun d => writesD d 2 (sheetB [])) syncD) fun d => headD H d (firstC H n)
def formatD (H : By → By) (d : Dk) (n : Int) : Dk × Option Wl × Int :=
  if mayI d n = true then
    ((fmtD H d n.toNat).1, (if (fmtD H d n.toNat).2 = 0 then some ⟨firstC H n.toNat, [[]], false⟩ else none), (fmtD H d n.toNat).2)
  else (d, none, 2)
/-- Sectors that are read. -/
def readsN (d : Dk) (at_ : Int) : Nat → Dk × List Bk × Int
  | 0 => (d, [], 0)
  | n + 1 =>
    if (readD d at_).2.2 = 0 then
      ((readsN (readD d at_).1 (at_ + 1) n).1, (if (readsN (readD d at_).1 (at_ + 1) n).2.2 = 0 then (readD d at_).2.1 :: (readsN (readD d at_).1 (at_ + 1) n).2.1 else []), (readsN (readD d at_).1 (at_ + 1) n).2.2)
    else ((readD d at_).1, [], (readD d at_).2.2)
def upC (c : Cm) : Cm := { c with turn := c.turn + 1 }
def open3 (H : By → By) (d : Dk) (c : Cm) : Option (List By) → Dk × Option Wl × Int
  | none => (d, none, 140)
  | some sh => ((headD H d (upC c)).1, (if (headD H d (upC c)).2 = 0 then some ⟨upC c, sh, false⟩ else none), (headD H d (upC c)).2)
def open2 (H : By → By) (d : Dk) : Option Cm → Dk × Option Wl × Int
  | none => (d, none, 140)
  | some c => if (readsN d (2 + c.side * c.n : Nat) c.used).2.2 = 0 then open3 H (readsN d (2 + c.side * c.n : Nat) c.used).1 c (goodC H c (readsN d (2 + c.side * c.n : Nat) c.used).2.1)
    else ((readsN d (2 + c.side * c.n : Nat) c.used).1, none, (readsN d (2 + c.side * c.n : Nat) c.used).2.2)
def headsC (H : By → By) (sz : Nat) (l : List Bk) : Option Cm := bestC (readC H sz 0 (l.getD 0 zeroB)) (readC H sz 1 (l.getD 1 zeroB))
def openD (H : By → By) (d : Dk) : Dk × Option Wl × Int :=
  if (readsN d 0 2).2.2 = 0 then open2 H (readsN d 0 2).1 (headsC H d.has.length (readsN d 0 2).2.1) else ((readsN d 0 2).1, none, (readsN d 0 2).2.2)
def nextC (H : By → By) (c : Cm) (side used all : Nat) (mark b : By) : Cm := ⟨c.turn + 1, c.n, side, used + secs b.length, all + 1, H (mark ++ b)⟩
/-- A sheet behind others of a side, and the next head. -/
def layD (H : By → By) (d : Dk) (at_ : Nat) (b : By) (c : Cm) : Dk × Int := thenD (thenD (writesD d at_ (sheetB b)) syncD) fun d => headD H d c
def putD (H : By → By) (d : Dk) (w : Wl) (side used all : Nat) (mark b : By) : Dk × Wl × Int :=
  if w.br = true then (d, w, 8)
  else if 50000 < b.length then (d, w, 3)
  else if w.c.n < used + secs b.length ∨ w.c.turn = 1073741824 then (d, w, 6)
  else if (layD H d (2 + (side * w.c.n + used)) b (nextC H w.c side used all mark b)).2 = 0 then
    ((layD H d (2 + (side * w.c.n + used)) b (nextC H w.c side used all mark b)).1, ⟨nextC H w.c side used all mark b, w.sh.take all ++ [b], false⟩, 0)
  else ((layD H d (2 + (side * w.c.n + used)) b (nextC H w.c side used all mark b)).1, { w with br := true }, (layD H d (2 + (side * w.c.n + used)) b (nextC H w.c side used all mark b)).2)
def appD (H : By → By) (d : Dk) (w : Wl) (b : By) : Dk × Wl × Int := putD H d w w.c.side w.c.used w.c.all w.c.mark b
def chkD (H : By → By) (d : Dk) (w : Wl) (b : By) : Dk × Wl × Int := putD H d w (1 - w.c.side) 0 0 [0, 0, 0, 0] b
end Go.Proofs.YtabjamkkhlbajaaDoor

/- The log: what stands on a disk, and what writes and syncs leave of it. -/
set_option linter.unusedSimpArgs false
set_option linter.unusedVariables false
namespace Go.Proofs.YtabjamkkhlbajaaDoor
/-- A disk's sectors, when these writes of its queue are done. -/
def imgD (d : Dk) (is : Nat → Bool) : List Bk := doQ d.has 0 d.qu is
def allI : Nat → Bool := fun _ => true
def atI (img : List Bk) (i : Nat) : Bk := img.getD i zeroB
theorem doQ_app (is : Nat → Bool) (p : Pt) : ∀ (l : List Pt) (has : List Bk) (k : Nat), doQ has k (l ++ [p]) is = if is (k + l.length) = true then (doQ has k l is).set p.1.toNat p.2 else doQ has k l is
  | [], has, k => by simp [doQ]
  | q :: l, has, k => by
    rw [List.cons_append]
    unfold doQ
    rw [doQ_app is p l _ (k + 1), List.length_cons, show k + 1 + l.length = k + (l.length + 1) by omega]
theorem img_len (d : Dk) (is : Nat → Bool) : (imgD d is).length = d.has.length := doQ_len _ _ _ _
theorem img_nil {d : Dk} (h : d.qu = []) (is : Nat → Bool) : imgD d is = d.has := by unfold imgD; rw [h]; rfl
theorem at_set (img : List Bk) (i j : Nat) (b : Bk) : atI (img.set i b) j = if i = j ∧ j < img.length then b else atI img j := by
  unfold atI
  rw [List.getD_eq_getElem?_getD, List.getD_eq_getElem?_getD, List.getElem?_set]
  by_cases h : i = j
  · subst h
    rw [if_pos rfl]
    by_cases h2 : i < img.length
    · rw [if_pos h2, if_pos ⟨rfl, h2⟩]; rfl
    · rw [if_neg h2, if_neg (fun h => h2 h.2), List.getElem?_eq_none (by omega)]
  · rw [if_neg h, if_neg (fun x => h x.1)]
theorem at_set_ne {img : List Bk} {i j : Nat} {b : Bk} (h : i ≠ j) : atI (img.set i b) j = atI img j := by rw [at_set, if_neg (fun x => h x.1)]
theorem at_set_eq {img : List Bk} {i : Nat} {b : Bk} (h : i < img.length) : atI (img.set i b) i = b := by rw [at_set, if_pos ⟨rfl, h⟩]
/-- Whatever of the queue is done. -/
def AllI (d : Dk) (P : List Bk → Prop) : Prop := ∀ is, P (imgD d is)
theorem write_len (d : Dk) (i : Int) (b : Bk) : (writeD d i b).1.has = d.has := by
  have h := (req_same d i true).1
  unfold writeD
  split
  · exact h
  · exact h
theorem sync_len (d : Dk) : (syncD d).1.has.length = d.has.length := by
  have h := (req_same d 0 true).1
  unfold syncD
  split
  · exact doQ_len _ _ _ _
  · rw [h]
/-- A write: refused, and all is as it was; or one more in the queue. -/
theorem write_cases (d : Dk) (i : Int) (b : Bk) : ((writeD d i b).2 ≠ 0 ∧ (writeD d i b).1.has = d.has ∧ (writeD d i b).1.qu = d.qu ∧ (writeD d i b).1.ops = d.ops) ∨
    ((writeD d i b).2 = 0 ∧ (writeD d i b).1.has = d.has ∧ (writeD d i b).1.qu = d.qu ++ [(i, b)] ∧ 0 ≤ i ∧ i < d.has.length ∧ (writeD d i b).1.ops = d.ops + 1) := by
  have h := req_same d i true
  unfold writeD
  split
  · rename_i h0
    have := req_in h0
    exact Or.inr ⟨rfl, h.1, rfl, this.1, this.2, by show (reqD d i true).1.ops + 1 = _; rw [h.2.2]⟩
  · rename_i h0
    exact Or.inl ⟨h0, h⟩
theorem sync_cases (d : Dk) : ((syncD d).2 ≠ 0 ∧ (syncD d).1.has = d.has ∧ (syncD d).1.qu = d.qu ∧ (syncD d).1.ops = d.ops) ∨
    ((syncD d).2 = 0 ∧ (syncD d).1.has = imgD d allI ∧ (syncD d).1.qu = [] ∧ (syncD d).1.ops = d.ops + 1) := by
  have h := req_same d 0 true
  unfold syncD
  split
  · exact Or.inr ⟨rfl, rfl, rfl, by show (reqD d 0 true).1.ops + 1 = _; rw [h.2.2]⟩
  · rename_i h0
    exact Or.inl ⟨h0, h⟩
theorem img_write {d d' : Dk} {i : Int} {b : Bk} (h1 : d'.has = d.has) (h2 : d'.qu = d.qu ++ [(i, b)]) (is : Nat → Bool) : imgD d' is = if is d.qu.length = true then (imgD d is).set i.toNat b else imgD d is := by
  unfold imgD
  rw [h1, h2, doQ_app, Nat.zero_add]
theorem img_same {d d' : Dk} (h1 : d'.has = d.has) (h2 : d'.qu = d.qu) (is : Nat → Bool) : imgD d' is = imgD d is := by unfold imgD; rw [h1, h2]
/-- What no write of these sectors takes away, no row of such writes does. -/
theorem write_keeps {P : List Bk → Prop} {d : Dk} (h : AllI d P) (i : Int) (b : Bk) (hP : ∀ img, P img → P (img.set i.toNat b)) : AllI (writeD d i b).1 P := by
  intro is
  rcases write_cases d i b with ⟨_, h1, h2, _⟩ | ⟨_, h1, h2, _, _, _⟩
  · rw [img_same h1 h2]; exact h is
  · rw [img_write h1 h2]
    split
    · exact hP _ (h is)
    · exact h is
theorem writes_keeps {P : List Bk → Prop} : ∀ (bs : List Bk) (d : Dk) (a : Nat), AllI d P → (∀ img i b, i < bs.length → P img → P (img.set (a + i) b)) → AllI (writesD d a bs).1 P
  | [], d, a, h, _ => h
  | b :: r, d, a, h, hP => by
    have h1 := write_keeps h a b (fun img hi => by have := hP img 0 b (by simp) hi; rwa [Int.toNat_natCast])
    unfold writesD thenD
    split
    · have := writes_keeps r (writeD d a b).1 (a + 1) h1 (fun img i c hi hp => by have := hP img (i + 1) c (by simp; omega) hp; rwa [show a + 1 + i = a + (i + 1) by omega])
      exact this
    · exact h1
theorem writes_has : ∀ (bs : List Bk) (d : Dk) (a : Int), (writesD d a bs).1.has = d.has
  | [], d, a => rfl
  | b :: r, d, a => by
    unfold writesD thenD
    split
    · rw [writes_has r, write_len]
    · exact write_len _ _ _
theorem writes_ops : ∀ (bs : List Bk) (d : Dk) (a : Int), (writesD d a bs).1.ops ≤ d.ops + bs.length ∧ (writesD d a bs).1.qu.length ≤ d.qu.length + bs.length
  | [], d, a => ⟨Nat.le_refl _, Nat.le_refl _⟩
  | b :: r, d, a => by
    have ih := writes_ops r (writeD d a b).1 (a + 1)
    have hw : (writeD d a b).1.ops ≤ d.ops + 1 ∧ (writeD d a b).1.qu.length ≤ d.qu.length + 1 := by
      rcases write_cases d a b with ⟨_, _, h2, h3⟩ | ⟨_, _, h2, _, _, h3⟩
      · rw [h2, h3]; exact ⟨by omega, by omega⟩
      · rw [h2, h3, List.length_append]; exact ⟨by omega, by simp⟩
    unfold writesD thenD
    split
    · show (writesD (writeD d a b).1 (a + 1) r).1.ops ≤ _ ∧ (writesD (writeD d a b).1 (a + 1) r).1.qu.length ≤ _
      rw [List.length_cons]; omega
    · exact ⟨by have := hw.1; rw [List.length_cons]; omega, by have := hw.2; rw [List.length_cons]; omega⟩
/-- All of a row of writes went well: what reads find. -/
theorem writes_img : ∀ (bs : List Bk) (d : Dk) (a : Nat), (writesD d a bs).2 = 0 → a + bs.length ≤ d.has.length →
    ∀ j, atI (imgD (writesD d a bs).1 allI) j = if a ≤ j ∧ j < a + bs.length then bs.getD (j - a) zeroB else atI (imgD d allI) j
  | [], d, a, _, _, j => by rw [if_neg (by simp only [List.length_nil]; omega)]; rfl
  | b :: r, d, a, h, hl, j => by
    rw [List.length_cons] at hl
    unfold writesD thenD at h ⊢
    rcases write_cases d a b with ⟨h0, _⟩ | ⟨h0, h1, h2, _, _, _⟩
    · rw [if_neg h0] at h; exact absurd h h0
    · rw [if_pos h0] at h ⊢
      have ih := writes_img r (writeD d a b).1 (a + 1) h (by rw [write_len]; omega) j
      refine ih.trans ?_
      rw [img_write h1 h2, if_pos (show allI d.qu.length = true from rfl), at_set, Int.toNat_natCast, img_len, List.length_cons]
      by_cases hj : j = a
      · subst hj
        rw [if_neg (by omega), if_pos ⟨rfl, by omega⟩, if_pos (by omega), Nat.sub_self]; rfl
      · rw [if_neg (show ¬ (a = j ∧ j < d.has.length) by omega)]
        by_cases hj2 : a + 1 ≤ j ∧ j < a + 1 + r.length
        · rw [if_pos hj2, if_pos (by omega), show j - a = (j - (a + 1)) + 1 by omega]; rfl
        · rw [if_neg hj2, if_neg (by omega)]
end Go.Proofs.YtabjamkkhlbajaaDoor

/- The log: what a right head on a disk says, and how it goes on. -/
set_option linter.unusedSimpArgs false
set_option linter.unusedVariables false
set_option linter.unusedSectionVars false
namespace Go.Proofs.YtabjamkkhlbajaaDoor
/-- A claim that may be, of these sheets. -/
structure CmOk (H : By → By) (sz : Nat) (c : Cm) (sh : List By) : Prop where
  t1 : 1 ≤ c.turn
  t2 : c.turn ≤ 1073741824
  n1 : 4 ≤ c.n
  n2 : c.n ≤ 1000
  n3 : 2 + 2 * c.n ≤ sz
  s : c.side ≤ 1
  u : c.used = (sh.flatMap sheetB).length
  un : c.used ≤ c.n
  a : c.all = sh.length
  a1 : 1 ≤ c.all
  m : c.mark = markL H sh
  len : ∀ b ∈ sh, b.length ≤ 50000
/-- Sectors with a right head, and its sheets. -/
structure HeadI (H : By → By) (img : List Bk) (c : Cm) (sh : List By) : Prop where
  ok : CmOk H img.length c sh
  head : atI img (c.turn % 2) = layB H c
  data : ∀ i, i < c.used → atI img (2 + c.side * c.n + i) = (sh.flatMap sheetB).getD i zeroB
  other : ∀ x, readC H img.length ((c.turn + 1) % 2) (atI img ((c.turn + 1) % 2)) = some x → x.turn < c.turn
section
variable {H : By → By} (hH : ∀ b, (H b).length = 4)
include hH
theorem mark_len (sh : List By) : (markL H sh).length = 4 := by
  unfold markL
  rcases List.eq_nil_or_concat sh with rfl | ⟨r, b, rfl⟩
  · rfl
  · rw [List.concat_eq_append, List.foldl_append]
    exact hH _
theorem sign_len {c : Cm} (h : c.mark.length = 4) : (signL c).length = 60 := by
  simp [signL, tallyL, hi4_len, h]
theorem blk_lay {c : Cm} (h : c.mark.length = 4) : blkL (layB H c) = signL c ++ H (signL c) := blkL_of _ (by rw [List.length_append, sign_len hH h, hH])
theorem cmOf_lay {c : Cm} (h : c.mark.length = 4) (h1 : c.turn < 4294967296) (h2 : c.n < 4294967296) (h3 : c.side < 4294967296) (h4 : c.used < 4294967296) (h5 : c.all < 4294967296) : cmOf (layB H c) = c := by
  have e := blk_lay hH h
  obtain ⟨t, n, s, u, a, m⟩ := c
  unfold cmOf
  rw [e]
  unfold signL
  simp only [List.append_assoc] at h1 h2 h3 h4 h5 h ⊢
  have k1 : ∀ X : By, num4 (List.drop 8 (tallyL ++ (hi4 t ++ X))) = t := fun X => num4_hi4 t h1 X
  have k2 : ∀ X : By, num4 (List.drop 12 (tallyL ++ (hi4 t ++ (hi4 n ++ X)))) = n := fun X => num4_hi4 n h2 X
  have k3 : ∀ X : By, num4 (List.drop 16 (tallyL ++ (hi4 t ++ (hi4 n ++ (hi4 s ++ X))))) = s := fun X => num4_hi4 s h3 X
  have k4 : ∀ X : By, num4 (List.drop 20 (tallyL ++ (hi4 t ++ (hi4 n ++ (hi4 s ++ (hi4 u ++ X)))))) = u := fun X => num4_hi4 u h4 X
  have k5 : ∀ X : By, num4 (List.drop 24 (tallyL ++ (hi4 t ++ (hi4 n ++ (hi4 s ++ (hi4 u ++ (hi4 a ++ X))))))) = a := fun X => num4_hi4 a h5 X
  have k6 : ∀ X : By, List.take 4 (List.drop 28 (tallyL ++ (hi4 t ++ (hi4 n ++ (hi4 s ++ (hi4 u ++ (hi4 a ++ (m ++ X)))))))) = m := fun X => by
    show List.take 4 (m ++ X) = m
    have hm : m.length = 4 := h
    rw [List.take_append_of_le_length (by omega), List.take_of_length_le (by omega)]
  rw [k1, k2, k3, k4, k5, k6]
theorem CmOk.small {sz : Nat} {c : Cm} {sh : List By} (h : CmOk H sz c sh) : c.all < 4294967296 := by
  have := flatW_len sh
  have := h.u
  have := h.a
  have := h.un
  have := h.n2
  omega
theorem read_lay {sz : Nat} {c : Cm} {sh : List By} (h : CmOk H sz c sh) : readC H sz (c.turn % 2) (layB H c) = some c := by
  have hm : c.mark.length = 4 := by rw [h.m]; exact mark_len hH sh
  have ha := h.small hH
  obtain ⟨t1, t2, n1, n2, n3, s, u, un, a, a1, m, len⟩ := h
  have e := cmOf_lay hH hm (by omega) (by omega) (by omega) (by omega) ha
  have hr : rightC sz (c.turn % 2) c = true := by
    unfold rightC mayB
    simp only [Bool.and_eq_true, decide_eq_true_eq]
    exact ⟨⟨⟨⟨⟨⟨t1, t2⟩, trivial⟩, ⟨n1, n2⟩, n3⟩, s⟩, un⟩, a1⟩
  unfold readC
  rw [e, if_pos ⟨hr, rfl⟩]
omit hH in
theorem heads_two (sz : Nat) (a b : Bk) : headsC H sz [a, b] = bestC (readC H sz 0 a) (readC H sz 1 b) := rfl
/-- What is found there. -/
theorem HeadI.heads {img : List Bk} {c : Cm} {sh : List By} (h : HeadI H img c sh) : headsC H img.length [atI img 0, atI img 1] = some c := by
  have hr := read_lay hH h.ok
  have ho := h.other
  rw [← h.head] at hr
  rw [heads_two]
  rcases (show c.turn % 2 = 0 ∨ c.turn % 2 = 1 by omega) with e | e
  · have e2 : (c.turn + 1) % 2 = 1 := by omega
    rw [e] at hr
    rw [e2] at ho
    generalize readC H img.length 0 (atI img 0) = x at hr
    generalize readC H img.length 1 (atI img 1) = y at ho
    subst hr
    cases y with
    | none => rfl
    | some y => have := ho y rfl; unfold bestC; simp only; rw [if_neg (by omega)]
  · have e2 : (c.turn + 1) % 2 = 0 := by omega
    rw [e] at hr
    rw [e2] at ho
    generalize readC H img.length 1 (atI img 1) = x at hr
    generalize readC H img.length 0 (atI img 0) = y at ho
    subst hr
    cases y with
    | none => rfl
    | some y => have := ho y rfl; unfold bestC; simp only; rw [if_pos this]
theorem HeadI.good {img : List Bk} {c : Cm} {sh : List By} (h : HeadI H img c sh) (ht : c.turn < 1073741824) : goodC H c ((List.range c.used).map fun i => atI img (2 + c.side * c.n + i)) = some sh := by
  have e : ((List.range c.used).map fun i => atI img (2 + c.side * c.n + i)) = sh.flatMap sheetB := by
    apply List.ext_getElem (by rw [List.length_map, List.length_range, h.ok.u])
    intro i h1 h2
    rw [List.length_map, List.length_range] at h1
    rw [List.getElem_map, List.getElem_range, h.data i h1, List.getD_eq_getElem?_getD, List.getElem?_eq_getElem h2]; rfl
  unfold goodC
  rw [e, wholeW_sheets h.ok.len]
  simp only
  rw [if_pos ⟨h.ok.a.symm, h.ok.m.symm, by omega⟩]
theorem HeadI.far {img : List Bk} {c : Cm} {sh : List By} (h : HeadI H img c sh) {j : Nat} {b : Bk} (h2 : 2 ≤ j) (hj : ∀ i, i < c.used → 2 + c.side * c.n + i ≠ j) : HeadI H (img.set j b) c sh := by
  refine ⟨by rw [List.length_set]; exact h.ok, ?_, fun i hi => ?_, ?_⟩
  · rw [at_set_ne (by omega)]; exact h.head
  · rw [at_set_ne (fun e => hj i hi e.symm)]; exact h.data i hi
  · rw [List.length_set, at_set_ne (by omega)]; exact h.other
theorem HeadI.lay {img : List Bk} {c c' : Cm} {sh sh' : List By} (h : HeadI H img c sh) (ok : CmOk H img.length c' sh') (ht : c'.turn = c.turn + 1) (hd : ∀ i, i < c'.used → atI img (2 + c'.side * c'.n + i) = (sh'.flatMap sheetB).getD i zeroB) :
    HeadI H (img.set (c'.turn % 2) (layB H c')) c' sh' := by
  have hl := h.ok.n3
  refine ⟨by rw [List.length_set]; exact ok, ?_, fun i hi => ?_, ?_⟩
  · exact at_set_eq (by have := h.ok.n1; omega)
  · rw [at_set_ne (by omega)]; exact hd i hi
  · rw [List.length_set, at_set_ne (by omega), show (c'.turn + 1) % 2 = c.turn % 2 by omega, h.head, read_lay hH h.ok]
    intro x hx
    cases hx
    omega
end
/-- A head is laid. -/
theorem headD_ok {H : By → By} {d : Dk} {c : Cm} (h : (headD H d c).2 = 0) (hl : 2 ≤ d.has.length) : (headD H d c).1.qu = [] ∧ (headD H d c).1.has = (imgD d allI).set (c.turn % 2) (layB H c) ∧ (headD H d c).1.ops = d.ops + 2 := by
  unfold headD writesD writesD thenD at h ⊢
  rcases write_cases d (c.turn % 2 : Nat) (layB H c) with ⟨h0, _⟩ | ⟨h0, h1, h2, _, _, h3⟩
  · simp only [h0, if_false] at h
  · simp only [h0, if_true] at h ⊢
    rcases sync_cases (writeD d (c.turn % 2 : Nat) (layB H c)).1 with ⟨g0, _⟩ | ⟨g0, g1, g2, g3⟩
    · exact absurd h g0
    · refine ⟨g2, ?_, by rw [g3, h3]⟩
      rw [g1, img_write h1 h2, if_pos (show allI _ = true from rfl), Int.toNat_natCast]
theorem headD_all {H : By → By} {d : Dk} {c : Cm} {P Q : List Bk → Prop} (h : AllI d P) (hP : ∀ img, P img → Q (img.set (c.turn % 2) (layB H c))) : AllI (headD H d c).1 (fun img => P img ∨ Q img) := by
  have hw : AllI (writeD d (c.turn % 2 : Nat) (layB H c)).1 (fun img => P img ∨ Q img) := by
    intro is
    rcases write_cases d (c.turn % 2 : Nat) (layB H c) with ⟨_, h1, h2, _⟩ | ⟨_, h1, h2, _, _, _⟩
    · rw [img_same h1 h2]; exact Or.inl (h is)
    · rw [img_write h1 h2]
      split
      · rw [Int.toNat_natCast]; exact Or.inr (hP _ (h is))
      · exact Or.inl (h is)
  unfold headD writesD writesD thenD
  by_cases h0 : (writeD d (c.turn % 2 : Nat) (layB H c)).2 = 0
  · simp only [h0, if_true]
    intro is
    rcases sync_cases (writeD d (c.turn % 2 : Nat) (layB H c)).1 with ⟨_, g1, g2, _⟩ | ⟨_, g1, g2, _⟩
    · rw [img_same g1 g2]; exact hw is
    · rw [img_nil g2, g1]; exact hw allI
  · simp only [h0, if_false]
    exact hw
theorem headD_len (H : By → By) (d : Dk) (c : Cm) : (headD H d c).1.has.length = d.has.length ∧ (headD H d c).1.ops ≤ d.ops + 2 ∧ (headD H d c).1.qu.length ≤ d.qu.length + 1 := by
  have h1 := writes_has [layB H c] d (c.turn % 2 : Nat)
  have h2 := writes_ops [layB H c] d (c.turn % 2 : Nat)
  simp only [List.length_cons, List.length_nil] at h2
  unfold headD thenD
  split
  · rcases sync_cases (writesD d (c.turn % 2 : Nat) [layB H c]).1 with ⟨_, g1, g2, g3⟩ | ⟨_, g1, g2, g3⟩
    · rw [g1, g2, g3, h1]; exact ⟨rfl, by omega, by omega⟩
    · rw [g1, g2, g3, img_len, h1, List.length_nil]; exact ⟨rfl, by omega, by omega⟩
  · rw [h1]; exact ⟨rfl, by omega, by omega⟩
section
variable {H : By → By} (hH : ∀ b, (H b).length = 4)
include hH
/-- The head that Open lays. -/
theorem HeadI.up {img : List Bk} {c : Cm} {sh : List By} (h : HeadI H img c sh) (ht : c.turn < 1073741824) : HeadI H (img.set ((upC c).turn % 2) (layB H (upC c))) (upC c) sh := by
  obtain ⟨⟨t1, t2, n1, n2, n3, s, u, un, a, a1, m, len⟩, h2, h3, h4⟩ := h
  exact HeadI.lay hH ⟨⟨t1, t2, n1, n2, n3, s, u, un, a, a1, m, len⟩, h2, h3, h4⟩ ⟨by show 1 ≤ c.turn + 1; omega, by show c.turn + 1 ≤ _; omega, n1, n2, n3, s, u, un, a, a1, m, len⟩ rfl h3
/-- A sheet is laid, and the head that tells of it. -/
theorem layD_law {d : Dk} {c c' : Cm} {sh sh' : List By} {a : Nat} {b : By} (h : AllI d (fun img => HeadI H img c sh)) (ha : a + secs b.length ≤ d.has.length) (ha2 : 2 ≤ a)
    (hj : ∀ i j, i < c.used → j < secs b.length → 2 + c.side * c.n + i ≠ a + j) (ok : CmOk H d.has.length c' sh') (ht : c'.turn = c.turn + 1)
    (hd : ∀ img, HeadI H img c sh → (∀ j, j < secs b.length → atI img (a + j) = (sheetB b).getD j zeroB) → ∀ i, i < c'.used → atI img (2 + c'.side * c'.n + i) = (sh'.flatMap sheetB).getD i zeroB) :
    ((layD H d a b c').2 = 0 → (layD H d a b c').1.qu = [] ∧ HeadI H (layD H d a b c').1.has c' sh') ∧ AllI (layD H d a b c').1 (fun img => HeadI H img c sh ∨ HeadI H img c' sh') := by
  have hlen := sheetB_len b
  have k1 : AllI (writesD d a (sheetB b)).1 (fun img => HeadI H img c sh) := writes_keeps _ _ _ h fun img i x hi hp => hp.far hH (by omega) fun k hk e => hj k i hk (by omega) (by omega)
  have kh := writes_has (sheetB b) d a
  unfold layD thenD
  by_cases h0 : (writesD d a (sheetB b)).2 = 0
  · rw [if_pos h0]
    have kw := writes_img (sheetB b) d a h0 (by omega)
    rcases sync_cases (writesD d a (sheetB b)).1 with ⟨g0, g1, g2, _⟩ | ⟨g0, g1, g2, _⟩
    · rw [if_neg g0]
      exact ⟨fun e => absurd e g0, fun is => by rw [img_same g1 g2]; exact Or.inl (k1 is)⟩
    · rw [if_pos g0]
      have hi : ∀ is, imgD (syncD (writesD d a (sheetB b)).1).1 is = imgD (writesD d a (sheetB b)).1 allI := fun is => by rw [img_nil g2, g1]
      have hI := k1 allI
      have hl : (syncD (writesD d a (sheetB b)).1).1.has.length = d.has.length := by rw [g1, img_len, kh]
      have hD := hd _ hI (fun j hj2 => by rw [kw (a + j), if_pos (by omega), show a + j - a = j by omega])
      have hN : HeadI H ((imgD (writesD d a (sheetB b)).1 allI).set (c'.turn % 2) (layB H c')) c' sh' := HeadI.lay hH hI (by rw [img_len, kh]; exact ok) ht hD
      constructor
      · intro e
        obtain ⟨e1, e2, _⟩ := headD_ok e (by rw [hl]; omega)
        refine ⟨e1, ?_⟩
        rw [e2, hi]
        exact hN
      · have := headD_all (H := H) (c := c') (P := fun img => img = imgD (writesD d a (sheetB b)).1 allI) (Q := fun img => HeadI H img c' sh') (d := (syncD (writesD d a (sheetB b)).1).1) (fun is => hi is) (fun img e => by rw [e]; exact hN)
        intro is
        rcases this is with e | e
        · left; rw [e]; exact hI
        · exact Or.inr e
  · rw [if_neg h0, if_neg h0]
    exact ⟨fun e => absurd e h0, fun is => Or.inl (k1 is)⟩
end
theorem layD_len (H : By → By) (d : Dk) (a : Nat) (b : By) (c : Cm) : (layD H d a b c).1.has.length = d.has.length ∧ (layD H d a b c).1.ops ≤ d.ops + secs b.length + 3 ∧ (layD H d a b c).1.qu.length ≤ d.qu.length + secs b.length + 1 := by
  have h1 := writes_has (sheetB b) d a
  have h2 := writes_ops (sheetB b) d a
  rw [sheetB_len] at h2
  unfold layD thenD
  by_cases h0 : (writesD d a (sheetB b)).2 = 0
  · rw [if_pos h0]
    have hl := headD_len H (syncD (writesD d a (sheetB b)).1).1 c
    rcases sync_cases (writesD d a (sheetB b)).1 with ⟨g0, g1, g2, g3⟩ | ⟨g0, g1, g2, g3⟩
    · rw [if_neg g0, g1, g2, g3, h1]; exact ⟨rfl, by omega, by omega⟩
    · rw [if_pos g0]
      rw [g1, g2, g3, img_len, h1, List.length_nil] at hl
      obtain ⟨l1, l2, l3⟩ := hl
      exact ⟨l1, by show (headD H _ c).1.ops ≤ _; omega, by show (headD H _ c).1.qu.length ≤ _; omega⟩
  · rw [if_neg h0, if_neg h0, h1]; exact ⟨rfl, by omega, by omega⟩
end Go.Proofs.YtabjamkkhlbajaaDoor

/- The log: Open, Append, Checkpoint and Format, over what stands on the disk. -/
set_option linter.unusedSimpArgs false
set_option linter.unusedVariables false
set_option linter.unusedSectionVars false
namespace Go.Proofs.YtabjamkkhlbajaaDoor
theorem reads_img {d : Dk} (hq : ∀ p ∈ d.qu, 0 ≤ p.1) {i : Nat} (hi : i < d.has.length) : readsD d i = atI (imgD d allI) i := by
  have h : (imgD d allI)[i]? = some (readsD d i) := by
    show (doQ d.has 0 d.qu _)[i]? = _
    rw [doQ_get i _ d.qu d.has 0 _ (List.getElem?_eq_getElem hi)]
    unfold allI
    rw [pick_all _ _ _ _ hq]
    unfold readsD
    rw [Int.toNat_natCast, List.getD_eq_getElem?_getD, List.getElem?_eq_getElem hi]
    rfl
  unfold atI
  rw [List.getD_eq_getElem?_getD, h]; rfl
/-- A disk that reads. -/
structure Awake (d : Dk) : Prop where
  dark : d.dark = false
  dm : d.dm = -1
theorem Calm.awake {d : Dk} (h : Calm d) : Awake d := ⟨h.dark, h.dm⟩
theorem Awake.read {d : Dk} (h : Awake d) {i : Int} (hi : 0 ≤ i ∧ i < d.has.length) : readD d i = (incD d, readsD d i, 0) := by
  obtain ⟨h1, h2⟩ := h
  have e : reqD d i false = (d, 0) := by
    unfold reqD
    rw [if_neg (by simp [h1]), if_neg (by simpa using hi), if_neg (by simp), if_neg (by simp [h2])]
    cases d
    simp only at h1 h2
    subst h1 h2
    simp [down]
  unfold readD
  rw [e]; rfl
def opsD (d : Dk) (n : Nat) : Dk := { d with ops := d.ops + n }
theorem opsD_opsD (d : Dk) (n m : Nat) : opsD (opsD d n) m = opsD d (n + m) := by unfold opsD; simp [Nat.add_assoc]
theorem Awake.reads : ∀ (n : Nat) {d : Dk} (h : Awake d) (hq : ∀ p ∈ d.qu, 0 ≤ p.1) (a : Nat) (hl : a + n ≤ d.has.length), readsN d a n = (opsD d n, (List.range n).map (fun i => atI (imgD d allI) (a + i)), 0)
  | 0, d, h, hq, a, hl => rfl
  | n + 1, d, h, hq, a, hl => by
    have hr := h.read (i := (a : Int)) ⟨by omega, by omega⟩
    have ih := Awake.reads n (d := incD d) ⟨h.dark, h.dm⟩ hq (a + 1) (by show _ ≤ d.has.length; omega)
    have ih : readsN (incD d) ((a : Int) + 1) n = (opsD (incD d) n, (List.range n).map (fun i => atI (imgD d allI) (a + 1 + i)), 0) := ih
    unfold readsN
    rw [hr]
    simp only [if_true]
    rw [ih]
    simp only [if_true]
    rw [reads_img hq (by omega), List.range_succ_eq_map, List.map_cons, List.map_map, Nat.add_zero]
    refine Prod.ext ?_ (Prod.ext ?_ rfl)
    · unfold opsD incD; simp only; congr 1; omega
    · simp only
      congr 1
      apply List.map_congr_left
      intro i _
      show _ = atI _ (a + (i + 1))
      rw [show a + 1 + i = a + (i + 1) by omega]
section
variable {H : By → By} (hH : ∀ b, (H b).length = 4)
include hH
theorem open_at {d : Dk} {c : Cm} {sh : List By} (aw : Awake d) (hq : ∀ p ∈ d.qu, 0 ≤ p.1) (hI : HeadI H (imgD d allI) c sh) (ht : c.turn < 1073741824) : openD H d = open3 H (opsD d (2 + c.used)) c (some sh) := by
  have hl := hI.ok.n3
  have h1 := hI.ok.n1
  have h2 := hI.ok.un
  have h3 := hI.ok.s
  rw [img_len] at hl
  have r1 := aw.reads 2 hq 0 (by omega)
  have e2 : (List.range 2).map (fun i => atI (imgD d allI) (0 + i)) = [atI (imgD d allI) 0, atI (imgD d allI) 1] := rfl
  rw [e2] at r1
  have hs : c.side * c.n ≤ c.n := by
    rcases (show c.side = 0 ∨ c.side = 1 by omega) with e | e <;> rw [e] <;> omega
  have r2 := Awake.reads c.used (d := opsD d 2) ⟨aw.dark, aw.dm⟩ hq (2 + c.side * c.n) (by show _ ≤ d.has.length; omega)
  have hh := hI.heads hH
  have hg := hI.good hH ht
  rw [img_len] at hh
  unfold openD
  rw [show ((0 : Nat) : Int) = 0 from rfl] at r1
  rw [r1]
  simp only [if_true]
  rw [hh]
  unfold open2
  dsimp only
  rw [r2, opsD_opsD]
  simp only [if_true]
  have e3 : imgD (opsD d 2) allI = imgD d allI := rfl
  rw [e3, hg]
end
theorem calm_write {d : Dk} (h : Calm d) {i : Int} (hi : 0 ≤ i ∧ i < d.has.length) (b : Bk) : (writeD d i b).2 = 0 ∧ Calm (writeD d i b).1 := by
  unfold writeD
  rw [calm_req h hi]
  exact ⟨rfl, h.dark, h.dm, h.ar⟩
theorem calm_sync {d : Dk} (h : Calm d) (hl : 1 ≤ d.has.length) : (syncD d).2 = 0 ∧ Calm (syncD d).1 := by
  unfold syncD
  rw [calm_req h ⟨by omega, by omega⟩]
  exact ⟨rfl, h.dark, h.dm, h.ar⟩
theorem calm_writes : ∀ (bs : List Bk) {d : Dk} (h : Calm d) (a : Nat) (hl : a + bs.length ≤ d.has.length), (writesD d a bs).2 = 0 ∧ Calm (writesD d a bs).1
  | [], d, h, a, hl => ⟨rfl, h⟩
  | b :: r, d, h, a, hl => by
    rw [List.length_cons] at hl
    obtain ⟨h1, h2⟩ := calm_write h (i := (a : Int)) ⟨by omega, by omega⟩ b
    have ih := calm_writes r h2 (a + 1) (by rw [write_len]; omega)
    unfold writesD thenD
    rw [if_pos h1]
    exact ih
theorem calm_head {H : By → By} {d : Dk} (h : Calm d) (c : Cm) (hl : 2 ≤ d.has.length) : (headD H d c).2 = 0 ∧ Calm (headD H d c).1 := by
  obtain ⟨h1, h2⟩ := calm_writes [layB H c] h (c.turn % 2) (by rw [List.length_cons, List.length_nil]; omega)
  have h3 := writes_has [layB H c] d (c.turn % 2 : Nat)
  unfold headD thenD
  rw [if_pos h1]
  exact calm_sync h2 (by rw [h3]; omega)
theorem calm_lay {H : By → By} {d : Dk} (h : Calm d) (a : Nat) (b : By) (c : Cm) (hl : 2 ≤ d.has.length) (ha : a + secs b.length ≤ d.has.length) : (layD H d a b c).2 = 0 ∧ Calm (layD H d a b c).1 := by
  obtain ⟨h1, h2⟩ := calm_writes (sheetB b) h a (by rw [sheetB_len]; omega)
  have h3 := writes_has (sheetB b) d a
  obtain ⟨h4, h5⟩ := calm_sync h2 (by rw [h3]; omega)
  unfold layD thenD
  rw [if_pos h1, if_pos h4]
  exact calm_head h5 c (by rw [sync_len, h3]; omega)
/-- Errors of a disk. -/
def DkErr (e : Int) : Prop := e = 0 ∨ e = 2 ∨ e = 8 ∨ e = 9
theorem req_err (d : Dk) (s : Int) (ch : Bool) : DkErr (reqD d s ch).2 := by
  unfold reqD DkErr
  repeat' split
  all_goals simp
theorem write_err (d : Dk) (i : Int) (b : Bk) : DkErr (writeD d i b).2 := by
  unfold writeD
  split
  · exact Or.inl rfl
  · exact req_err _ _ _
theorem sync_err (d : Dk) : DkErr (syncD d).2 := by
  unfold syncD
  split
  · exact Or.inl rfl
  · exact req_err _ _ _
theorem writes_err : ∀ (bs : List Bk) (d : Dk) (a : Int), DkErr (writesD d a bs).2
  | [], d, a => Or.inl rfl
  | b :: r, d, a => by
    unfold writesD thenD
    split
    · exact writes_err r _ _
    · exact write_err _ _ _
theorem head_err (H : By → By) (d : Dk) (c : Cm) : DkErr (headD H d c).2 := by
  unfold headD thenD
  split
  · exact sync_err _
  · exact writes_err _ _ _
theorem lay_err (H : By → By) (d : Dk) (a : Nat) (b : By) (c : Cm) : DkErr (layD H d a b c).2 := by
  unfold layD thenD
  by_cases h0 : (writesD d a (sheetB b)).2 = 0
  · rw [if_pos h0]
    by_cases h1 : (syncD (writesD d a (sheetB b)).1).2 = 0
    · rw [if_pos h1]; exact head_err _ _ _
    · rw [if_neg h1]; exact sync_err _
  · rw [if_neg h0, if_neg h0]; exact writes_err _ _ _
/-- What a sheet more says. -/
def nextL (k : Bool) (l : List By) (b : By) : List By := if k = true then [b] else l ++ [b]
def putK (H : By → By) (k : Bool) (d : Dk) (w : Wl) (b : By) : Dk × Wl × Int := if k = true then chkD H d w b else appD H d w b
/-- A log whose head stands, and nothing waits. -/
structure Still (H : By → By) (d : Dk) (w : Wl) : Prop where
  br : w.br = false
  qu : d.qu = []
  hI : HeadI H d.has w.c w.sh
theorem flat_app (l : List By) (b : By) : (l ++ [b]).flatMap sheetB = l.flatMap sheetB ++ sheetB b := by simp
section
variable {H : By → By} (hH : ∀ b, (H b).length = 4)
include hH
/-- What becomes of a log that takes one more. -/
theorem put_law (k : Bool) {d : Dk} {w : Wl} (h : Still H d w) (b : By) (hb : b.length ≤ 50000) (ht : w.c.turn < 1073741824) :
    ((if k = true then 0 else w.c.used) + secs b.length > w.c.n ∧ putK H k d w b = (d, w, 6)) ∨
    ((if k = true then 0 else w.c.used) + secs b.length ≤ w.c.n ∧ ∃ c' d' e, c'.turn = w.c.turn + 1 ∧ c'.n = w.c.n ∧ c'.used = (if k = true then 0 else w.c.used) + secs b.length ∧ DkErr e ∧ d'.has.length = d.has.length ∧ d'.ops ≤ d.ops + secs b.length + 3 ∧ d'.qu.length ≤ secs b.length + 1 ∧
      putK H k d w b = (d', (if e = 0 then ⟨c', nextL k w.sh b, false⟩ else { w with br := true }), e) ∧ (e = 0 → d'.qu = [] ∧ HeadI H d'.has c' (nextL k w.sh b)) ∧ AllI d' (fun img => HeadI H img w.c w.sh ∨ HeadI H img c' (nextL k w.sh b)) ∧ (Calm d → e = 0 ∧ Calm d')) := by
  obtain ⟨br, qu, hI⟩ := h
  have hk := hI.ok
  obtain ⟨t1, t2, n1, n2, n3, s, u, un, a, a1, m, len⟩ := hk
  have hs : w.c.side * w.c.n ≤ w.c.n := by
    rcases (show w.c.side = 0 ∨ w.c.side = 1 by omega) with e | e <;> rw [e] <;> omega
  have hall : AllI d (fun img => HeadI H img w.c w.sh) := fun is => by rw [img_nil qu]; exact hI
  have hbl := sheetB_len b
  have hp := secs_pos b.length
  cases k with
  | false =>
    simp only [Bool.false_eq_true, if_false]
    by_cases hf : w.c.n < w.c.used + secs b.length
    · left
      refine ⟨hf, ?_⟩
      unfold putK appD putD
      rw [if_neg (by simp), if_neg (by simp [br]), if_neg (by omega), if_pos (Or.inl hf)]
    · right
      refine ⟨by omega, nextC H w.c w.c.side w.c.used w.c.all w.c.mark b, (layD H d (2 + (w.c.side * w.c.n + w.c.used)) b (nextC H w.c w.c.side w.c.used w.c.all w.c.mark b)).1, (layD H d (2 + (w.c.side * w.c.n + w.c.used)) b (nextC H w.c w.c.side w.c.used w.c.all w.c.mark b)).2, rfl, rfl, rfl, lay_err _ _ _ _ _, ?_⟩
      have hok : CmOk H d.has.length (nextC H w.c w.c.side w.c.used w.c.all w.c.mark b) (nextL false w.sh b) := by
        refine ⟨by show 1 ≤ w.c.turn + 1; omega, by show w.c.turn + 1 ≤ 1073741824; omega, n1, n2, n3, s, ?_, by show w.c.used + secs b.length ≤ w.c.n; omega, by show w.c.all + 1 = (w.sh ++ [b]).length; simp [a], by show 1 ≤ w.c.all + 1; omega, ?_, ?_⟩
        · show w.c.used + secs b.length = ((w.sh ++ [b]).flatMap sheetB).length
          rw [flat_app, List.length_append, hbl, u]
        · show H (w.c.mark ++ b) = markL H (w.sh ++ [b])
          unfold markL
          rw [List.foldl_append, m]; rfl
        · intro x hx
          rcases List.mem_append.1 (show x ∈ w.sh ++ [b] from hx) with hx | hx
          · exact len x hx
          · rw [List.mem_singleton.1 hx]; exact hb
      have hL := layD_law hH (d := d) (c := w.c) (c' := nextC H w.c w.c.side w.c.used w.c.all w.c.mark b) (sh := w.sh) (sh' := nextL false w.sh b) (a := 2 + (w.c.side * w.c.n + w.c.used)) (b := b) hall (by omega) (by omega) (fun i j hi hj => by omega) hok rfl (fun img hP hj i hi => by
        show atI img (2 + w.c.side * w.c.n + i) = ((w.sh ++ [b]).flatMap sheetB).getD i zeroB
        have hi : i < w.c.used + secs b.length := hi
        rw [flat_app, List.getD_eq_getElem?_getD]
        by_cases h1 : i < w.c.used
        · rw [List.getElem?_append_left (by omega), hP.data i h1, List.getD_eq_getElem?_getD]
        · rw [List.getElem?_append_right (by omega), show 2 + w.c.side * w.c.n + i = 2 + (w.c.side * w.c.n + w.c.used) + (i - w.c.used) by omega, hj _ (by omega), List.getD_eq_getElem?_getD, u])
      obtain ⟨g1, g2, g3⟩ := layD_len H d (2 + (w.c.side * w.c.n + w.c.used)) b (nextC H w.c w.c.side w.c.used w.c.all w.c.mark b)
      rw [qu, List.length_nil] at g3
      refine ⟨g1, g2, by omega, ?_, hL.1, hL.2, fun hc => calm_lay hc _ _ _ (by omega) (by omega)⟩
      unfold putK appD putD
      rw [if_neg (by simp), if_neg (by simp [br]), if_neg (by omega), if_neg (by omega)]
      split
      · rename_i e0
        rw [e0]
        show _ = (_, (⟨_, w.sh ++ [b], false⟩ : Wl), _)
        rw [a, List.take_of_length_le (Nat.le_refl _)]
      · rename_i e0
        rfl
  | true =>
    simp only [if_true, Nat.zero_add]
    by_cases hf : w.c.n < secs b.length
    · left
      refine ⟨hf, ?_⟩
      unfold putK chkD putD
      rw [if_pos rfl, if_neg (by simp [br]), if_neg (by omega), if_pos (Or.inl (by omega))]
    · right
      refine ⟨by omega, nextC H w.c (1 - w.c.side) 0 0 [0, 0, 0, 0] b, (layD H d (2 + ((1 - w.c.side) * w.c.n + 0)) b (nextC H w.c (1 - w.c.side) 0 0 [0, 0, 0, 0] b)).1, (layD H d (2 + ((1 - w.c.side) * w.c.n + 0)) b (nextC H w.c (1 - w.c.side) 0 0 [0, 0, 0, 0] b)).2, rfl, rfl, by show 0 + _ = _; omega, lay_err _ _ _ _ _, ?_⟩
      have hs2 : (w.c.side * w.c.n = 0 ∧ (1 - w.c.side) * w.c.n = w.c.n) ∨ (w.c.side * w.c.n = w.c.n ∧ (1 - w.c.side) * w.c.n = 0) := by
        rcases (show w.c.side = 0 ∨ w.c.side = 1 by omega) with e | e <;> rw [e] <;> simp
      have hok : CmOk H d.has.length (nextC H w.c (1 - w.c.side) 0 0 [0, 0, 0, 0] b) (nextL true w.sh b) := by
        refine ⟨by show 1 ≤ w.c.turn + 1; omega, by show w.c.turn + 1 ≤ 1073741824; omega, n1, n2, n3, by show 1 - w.c.side ≤ 1; omega, ?_, by show 0 + secs b.length ≤ w.c.n; omega, rfl, Nat.le_refl 1, ?_, ?_⟩
        · show 0 + secs b.length = ([b].flatMap sheetB).length
          rw [List.flatMap_cons, List.flatMap_nil, List.append_nil, hbl]; omega
        · rfl
        · intro x hx
          rw [List.mem_singleton.1 (show x ∈ [b] from hx)]; exact hb
      have hL := layD_law hH (d := d) (c := w.c) (c' := nextC H w.c (1 - w.c.side) 0 0 [0, 0, 0, 0] b) (sh := w.sh) (sh' := nextL true w.sh b) (a := 2 + ((1 - w.c.side) * w.c.n + 0)) (b := b) hall (by omega) (by omega) (fun i j hi hj => by omega) hok rfl (fun img hP hj i hi => by
        show atI img (2 + (1 - w.c.side) * w.c.n + i) = ([b].flatMap sheetB).getD i zeroB
        have hi : i < 0 + secs b.length := hi
        rw [List.flatMap_cons, List.flatMap_nil, List.append_nil, show 2 + (1 - w.c.side) * w.c.n + i = 2 + ((1 - w.c.side) * w.c.n + 0) + i by omega, hj _ (by omega)])
      obtain ⟨g1, g2, g3⟩ := layD_len H d (2 + ((1 - w.c.side) * w.c.n + 0)) b (nextC H w.c (1 - w.c.side) 0 0 [0, 0, 0, 0] b)
      rw [qu, List.length_nil] at g3
      refine ⟨g1, g2, by omega, ?_, hL.1, hL.2, fun hc => calm_lay hc _ _ _ (by omega) (by omega)⟩
      unfold putK chkD putD
      rw [if_pos rfl, if_neg (by simp [br]), if_neg (by omega), if_neg (by omega)]
      split
      · rename_i e0
        rw [e0]
        rfl
      · rename_i e0
        rfl
end
end Go.Proofs.YtabjamkkhlbajaaDoor

/- The log: a new one, and one that is opened, as laws of disks. -/
set_option linter.unusedSimpArgs false
set_option linter.unusedVariables false
set_option linter.unusedSectionVars false
namespace Go.Proofs.YtabjamkkhlbajaaDoor
/-- Some right head tells of these sheets. -/
def Tells (H : By → By) (T : Nat) (sh : List By) (img : List Bk) : Prop := ∃ c, HeadI H img c sh ∧ c.turn ≤ T
theorem Tells.up {H : By → By} {T T' : Nat} {sh : List By} {img : List Bk} (h : Tells H T sh img) (hT : T ≤ T') : Tells H T' sh img := by
  obtain ⟨c, h1, h2⟩ := h
  exact ⟨c, h1, Nat.le_trans h2 hT⟩
theorem crash_img (d : Dk) (keep : List Bool) : (crashD d keep).has = imgD d (livesK keep d.qu.length) := rfl
theorem crash_qu (d : Dk) (keep : List Bool) : (crashD d keep).qu = [] ∧ (crashD d keep).ops = d.ops ∧ (crashD d keep).has.length = d.has.length := ⟨rfl, rfl, doQ_len _ _ _ _⟩
theorem zero_read (H : By → By) (sz at_ : Nat) : readC H sz at_ zeroB = none := by
  have e : (cmOf zeroB).turn = 0 := by
    have hz : ∀ i, (blkL zeroB).getD i 0 = 0 := fun i => by
      rw [blkL_get]
      by_cases h : i < 64
      · exact bkF_of _ i h
      · unfold bkF
        rw [Array.getD_eq_getD_getElem?, Array.getElem?_eq_none (by simp; omega)]; rfl
    have hd : ∀ i, ((blkL zeroB).drop 8).getD i 0 = 0 := fun i => by
      have := hz (8 + i)
      rw [List.getD_eq_getElem?_getD] at this ⊢
      rwa [List.getElem?_drop]
    show num4 ((blkL zeroB).drop 8) = 0
    unfold num4
    rw [hd, hd, hd, hd]; rfl
  unfold readC
  rw [if_neg]
  rintro ⟨h, _⟩
  unfold rightC at h
  rw [e] at h
  simp at h
section
variable {H : By → By} (hH : ∀ b, (H b).length = 4)
include hH
/-- Open, over a right head. -/
theorem open_law {d : Dk} {sh : List By} {T : Nat} (aw : Awake d) (hq : ∀ p ∈ d.qu, 0 ≤ p.1) (h : Tells H T sh (imgD d allI)) (hT : T < 1073741824) :
    ∃ c d' e, HeadI H (imgD d allI) c sh ∧ c.turn ≤ T ∧ openD H d = (d', (if e = 0 then some ⟨upC c, sh, false⟩ else none), e) ∧ DkErr e ∧ d'.has.length = d.has.length ∧ d'.ops ≤ d.ops + c.used + 4 ∧ d'.qu.length ≤ d.qu.length + 1 ∧
      (e = 0 → d'.qu = [] ∧ HeadI H d'.has (upC c) sh ∧ d'.ops = d.ops + (2 + c.used) + 2) ∧ (d.qu = [] → AllI d' (Tells H (T + 1) sh)) ∧ (Calm d → e = 0 ∧ Calm d') := by
  obtain ⟨c, hI, hc⟩ := h
  have ho := open_at hH aw hq hI (by omega)
  have hu := hI.up hH (by omega)
  have hl := hI.ok.n3
  have h4 := hI.ok.n1
  rw [img_len] at hl
  obtain ⟨l1, l2, l3⟩ := headD_len H (opsD d (2 + c.used)) (upC c)
  refine ⟨c, (headD H (opsD d (2 + c.used)) (upC c)).1, (headD H (opsD d (2 + c.used)) (upC c)).2, hI, hc, ho, head_err _ _ _, l1, by have : (opsD d (2 + c.used)).ops = d.ops + (2 + c.used) := rfl; omega, l3, fun e0 => ?_, fun hq0 => ?_, fun hcm => ?_⟩
  · obtain ⟨k1, k2, k3⟩ := headD_ok e0 (by show 2 ≤ d.has.length; omega)
    exact ⟨k1, by rw [k2]; exact hu, k3⟩
  · have := headD_all (H := H) (c := upC c) (P := fun img => img = imgD d allI) (Q := fun img => HeadI H img (upC c) sh) (d := opsD d (2 + c.used)) (fun is => by
      show imgD d is = _
      rw [img_nil hq0, img_nil hq0]) (fun img e => by rw [e]; exact hu)
    intro is
    rcases this is with e | e
    · rw [e]; exact ⟨c, hI, by omega⟩
    · exact ⟨upC c, e, by show c.turn + 1 ≤ _; omega⟩
  · exact calm_head (d := opsD d (2 + c.used)) ⟨hcm.dark, hcm.dm, hcm.ar⟩ (upC c) (by show 2 ≤ d.has.length; omega)
theorem sheet_nil : (sheetB []).length = 1 := by rw [sheetB_len]; rfl
/-- Format, of a disk without a fault. -/
theorem fmt_law {d : Dk} {n : Nat} (hc : Calm d) (hm : mayI d n = true) : ∃ d', formatD H d n = (d', some ⟨firstC H n, [[]], false⟩, 0) ∧ Calm d' ∧ d'.has.length = d.has.length ∧ d'.ops ≤ d.ops + 7 ∧ d'.qu = [] ∧ HeadI H d'.has (firstC H n) [[]] := by
  have hm2 := hm
  unfold mayI at hm2
  simp only [Bool.and_eq_true, decide_eq_true_eq] at hm2
  obtain ⟨⟨m1, m2⟩, m3⟩ := hm2
  have sn := sheet_nil hH
  obtain ⟨a1, a2⟩ := calm_writes [zeroB, zeroB] hc 0 (by rw [List.length_cons, List.length_cons, List.length_nil]; omega)
  have a3 := writes_has [zeroB, zeroB] d ((0 : Nat) : Int)
  have a4 := writes_ops [zeroB, zeroB] d ((0 : Nat) : Int)
  have a5 := writes_img [zeroB, zeroB] d 0 a1 (by rw [List.length_cons, List.length_cons, List.length_nil]; omega)
  rw [show ((0 : Nat) : Int) = 0 from rfl] at a1 a2 a3 a4 a5
  simp only [List.length_cons, List.length_nil] at a4 a5
  generalize e1 : writesD d 0 [zeroB, zeroB] = r1 at a1 a2 a3 a4 a5
  obtain ⟨d1, e1'⟩ := r1
  simp only at a1 a2 a3 a4 a5
  obtain ⟨b1, b2⟩ := calm_sync a2 (by rw [a3]; omega)
  rcases sync_cases d1 with ⟨b0, _⟩ | ⟨_, b3, b4, b5⟩
  · exact absurd b1 b0
  generalize e2 : syncD d1 = r2 at b1 b2 b3 b4 b5
  obtain ⟨d2, e2'⟩ := r2
  simp only at b1 b2 b3 b4 b5
  have bl : d2.has.length = d.has.length := by rw [b3, img_len, a3]
  obtain ⟨c1, c2⟩ := calm_writes (sheetB []) b2 2 (by rw [sn, bl]; omega)
  have c3 := writes_has (sheetB []) d2 ((2 : Nat) : Int)
  have c4 := writes_ops (sheetB []) d2 ((2 : Nat) : Int)
  have c5 := writes_img (sheetB []) d2 2 c1 (by rw [sn, bl]; omega)
  rw [show ((2 : Nat) : Int) = 2 from rfl] at c1 c2 c3 c4 c5
  rw [sn] at c4 c5
  generalize e3 : writesD d2 2 (sheetB []) = r3 at c1 c2 c3 c4 c5
  obtain ⟨d3, e3'⟩ := r3
  simp only at c1 c2 c3 c4 c5
  obtain ⟨f1, f2⟩ := calm_sync c2 (by rw [c3, bl]; omega)
  rcases sync_cases d3 with ⟨f0, _⟩ | ⟨_, f3, f4, f5⟩
  · exact absurd f1 f0
  generalize e4 : syncD d3 = r4 at f1 f2 f3 f4 f5
  obtain ⟨d4, e4'⟩ := r4
  simp only at f1 f2 f3 f4 f5
  have fl : d4.has.length = d.has.length := by rw [f3, img_len, c3, bl]
  obtain ⟨g1, g2⟩ := calm_head (H := H) f2 (firstC H n) (by rw [fl]; omega)
  obtain ⟨g3, g4, g5⟩ := headD_ok g1 (by rw [fl]; omega)
  have hfm : fmtD H d n = headD H d4 (firstC H n) := by
    unfold fmtD thenD
    rw [e1]
    simp only [a1, if_true]
    rw [e2]
    simp only [b1, if_true]
    rw [e3]
    simp only [c1, if_true]
    rw [e4]
    simp only [f1, if_true]
  refine ⟨(headD H d4 (firstC H n)).1, ?_, g2, by rw [(headD_len H d4 _).1, fl], by rw [g5, f5]; omega, g3, ?_⟩
  · unfold formatD
    rw [if_pos hm, Int.toNat_natCast, hfm, g1]; rfl
  · rw [g4]
    have hh : ∀ j, j < 2 → atI (imgD d4 allI) j = zeroB := fun j hj => by
      rw [img_nil f4, f3, c5 j, if_neg (by omega), img_nil b4, b3, a5 j, if_pos (by omega)]
      rcases (show j = 0 ∨ j = 1 by omega) with rfl | rfl <;> rfl
    have hl : (imgD d4 allI).length = d.has.length := by rw [img_len, fl]
    refine ⟨?_, ?_, fun i hi => ?_, ?_⟩
    · rw [List.length_set, hl]
      refine ⟨Nat.le_refl 1, by show 1 ≤ 1073741824; omega, by show 4 ≤ n; omega, by show n ≤ 1000; omega, by show 2 + 2 * n ≤ _; omega, by show 0 ≤ 1; omega, ?_, by show 1 ≤ n; omega, rfl, Nat.le_refl 1, ?_, fun b hb => by rw [List.mem_singleton.1 hb]; simp⟩
      · show 1 = ([[]].flatMap sheetB).length
        rw [List.flatMap_cons, List.flatMap_nil, List.append_nil, sn]
      · show H [0, 0, 0, 0] = markL H [[]]
        rfl
    · exact at_set_eq (by rw [hl]; show 1 % 2 < _; omega)
    · have hi : i < 1 := hi
      obtain rfl : i = 0 := by omega
      show atI ((imgD d4 allI).set (1 % 2) _) (2 + 0 * n + 0) = ([[]].flatMap sheetB).getD 0 zeroB
      rw [at_set_ne (by omega), img_nil f4, f3, c5 _, if_pos (by omega), List.flatMap_cons, List.flatMap_nil, List.append_nil, show 2 + 0 * n + 0 - 2 = 0 by omega]
    · show ∀ x, readC H _ ((1 + 1) % 2) (atI ((imgD d4 allI).set (1 % 2) _) ((1 + 1) % 2)) = some x → _
      rw [at_set_ne (by omega), hh _ (by omega), zero_read]
      intro x hx
      cases hx
end
end Go.Proofs.YtabjamkkhlbajaaDoor

/- The log: rounds of the laws: what an Append or a Checkpoint, a crash, an Open lead to. -/
set_option linter.unusedSimpArgs false
set_option linter.unusedVariables false
set_option linter.unusedSectionVars false
namespace Go.Proofs.YtabjamkkhlbajaaDoor
/-- A disk that keeps its power. -/
structure Lit (d : Dk) : Prop where
  dark : d.dark = false
  ar : d.ar = -1
theorem Calm.lit {d : Dk} (h : Calm d) : Lit d := ⟨h.dark, h.ar⟩
section
variable {H : By → By} (hH : ∀ b, (H b).length = 4)
include hH
theorem head_uniq {img : List Bk} {c c2 : Cm} {sh sh2 : List By} (h : HeadI H img c sh) (h2 : HeadI H img c2 sh2) : c = c2 := by
  have e1 := h.heads hH
  have e2 := h2.heads hH
  rw [e1] at e2
  exact Option.some.inj e2
end
/-- What is known of a log between two steps of a law. -/
structure LogI (H : By → By) (d : Dk) (w : Wl) (l : List By) (T U : Nat) : Prop where
  still : Still H d w
  sh : w.sh = l
  len : d.has.length = 22
  t : w.c.turn ≤ T
  u : d.ops ≤ U
/-- What is known of a disk behind a crash. -/
structure DiskC (H : By → By) (d : Dk) (l : List By) (T U : Nat) : Prop where
  calm : Calm d
  qu : d.qu = []
  tells : Tells H T l d.has
  len : d.has.length = 22
  u : d.ops ≤ U
theorem secs_500 {b : By} (h : b.length ≤ 500) : secs b.length ≤ 8 := by unfold secs; omega
section
variable {H : By → By} (hH : ∀ b, (H b).length = 4)
include hH
theorem LogI.put {d : Dk} {w : Wl} {l : List By} {T U : Nat} (h : LogI H d w l T U) (k : Bool) (b : By) (hb : b.length ≤ 500) (hT : T < 1073741824) :
    putK H k d w b = (d, w, 6) ∨ ∃ c' d' e, putK H k d w b = (d', (if e = 0 then ⟨c', nextL k l b, false⟩ else { w with br := true }), e) ∧ DkErr e ∧ (e = 0 → LogI H d' ⟨c', nextL k l b, false⟩ (nextL k l b) (T + 1) (U + 11)) ∧
      (∀ keep, DiskC H (crashD d' keep) l (T + 1) (U + 11) ∨ DiskC H (crashD d' keep) (nextL k l b) (T + 1) (U + 11)) := by
  obtain ⟨hs, rfl, hl, ht, hu⟩ := h
  rcases put_law hH k hs b (by omega) (by omega) with ⟨_, h1⟩ | ⟨_, c', d', e, k1, k2, k3, k4, k5, k6, k7, k8, k9, k10, _⟩
  · exact Or.inl h1
  · have := secs_500 hb
    refine Or.inr ⟨c', d', e, k8, k4, fun e0 => ?_, fun keep => ?_⟩
    · obtain ⟨q1, q2⟩ := k9 e0
      exact ⟨⟨rfl, q1, q2⟩, rfl, by rw [k5, hl], by show c'.turn ≤ _; omega, by omega⟩
    · obtain ⟨q1, q2, q3⟩ := crash_qu d' keep
      rcases k10 (livesK keep d'.qu.length) with q | q
      · exact Or.inl ⟨crash_calm _ _, q1, by rw [crash_img]; exact ⟨_, q, by omega⟩, by rw [q3, k5, hl], by rw [q2]; omega⟩
      · exact Or.inr ⟨crash_calm _ _, q1, by rw [crash_img]; exact ⟨_, q, by omega⟩, by rw [q3, k5, hl], by rw [q2]; omega⟩
omit hH in
theorem LogI.crash {d : Dk} {w : Wl} {l : List By} {T U : Nat} (h : LogI H d w l T U) (keep : List Bool) : DiskC H (crashD d keep) l T U := by
  obtain ⟨hs, rfl, hl, ht, hu⟩ := h
  obtain ⟨q1, q2, q3⟩ := crash_qu d keep
  exact ⟨crash_calm _ _, q1, by rw [crash_img, img_nil hs.qu]; exact ⟨_, hs.hI, ht⟩, by rw [q3, hl], by rw [q2]; exact hu⟩
omit hH in
theorem LogI.le {d : Dk} {w : Wl} {l : List By} {T U T' U' : Nat} (h : LogI H d w l T U) (hT : T ≤ T') (hU : U ≤ U') : LogI H d w l T' U' := ⟨h.still, h.sh, h.len, Nat.le_trans h.t hT, Nat.le_trans h.u hU⟩
omit hH in
theorem DiskC.le {d : Dk} {l : List By} {T U T' U' : Nat} (h : DiskC H d l T U) (hT : T ≤ T') (hU : U ≤ U') : DiskC H d l T' U' := ⟨h.calm, h.qu, h.tells.up hT, h.len, Nat.le_trans h.u hU⟩
/-- The power goes in an Open. -/
theorem DiskC.arm {d : Dk} {l : List By} {T U : Nat} (h : DiskC H d l T U) (n : Int) (hT : T < 1073741824) :
    (armD d n).2 = 0 ∧ ∃ c d' e, openD H (armD d n).1 = (d', (if e = 0 then some ⟨upC c, l, false⟩ else none), e) ∧ DkErr e ∧ ∀ keep, DiskC H (crashD d' keep) l (T + 1) (U + 14) := by
  obtain ⟨hc, hq, ht, hl, hu⟩ := h
  have e1 : armD d n = ({ d with ar := max n (-1) }, 0) := by unfold armD; rw [if_neg (by simp [hc.dark])]
  rw [e1]
  refine ⟨rfl, ?_⟩
  obtain ⟨c, d', e, k1, k2, k3, k4, k5, k6, k7, k8, k9, _⟩ := open_law hH (d := { d with ar := max n (-1) }) (sh := l) (T := T) ⟨hc.dark, hc.dm⟩ (by show ∀ p ∈ d.qu, _; rw [hq]; simp) (by show Tells H T l (imgD d allI); rw [img_nil hq]; exact ht) hT
  have hI : HeadI H (imgD d allI) c l := k1
  have hn := hI.ok.n3
  have hun := hI.ok.un
  rw [img_len, hl] at hn
  have k5 : d'.has.length = d.has.length := k5
  have k6 : d'.ops ≤ d.ops + c.used + 4 := k6
  refine ⟨c, d', e, k3, k4, fun keep => ?_⟩
  obtain ⟨q1, q2, q3⟩ := crash_qu d' keep
  exact ⟨crash_calm _ _, q1, by rw [crash_img]; exact k9 hq _, by rw [q3, k5, hl], by rw [q2]; omega⟩
/-- Open, over a right head that is known. -/
theorem open_known {d : Dk} {c : Cm} {sh : List By} (hc : Calm d) (hq : ∀ p ∈ d.qu, 0 ≤ p.1) (h : HeadI H (imgD d allI) c sh) (ht : c.turn < 1073741824) :
    ∃ d', openD H d = (d', some ⟨upC c, sh, false⟩, 0) ∧ Calm d' ∧ d'.qu = [] ∧ HeadI H d'.has (upC c) sh ∧ d'.ops = d.ops + (2 + c.used) + 2 ∧ d'.has.length = d.has.length := by
  obtain ⟨c2, d', e, k1, k2, k3, k4, k5, k6, k7, k8, k9, k10⟩ := open_law hH (d := d) (sh := sh) (T := c.turn) hc.awake hq ⟨c, h, Nat.le_refl _⟩ ht
  obtain rfl := head_uniq hH h k1
  obtain ⟨rfl, hc'⟩ := k10 hc
  obtain ⟨q1, q2, q3⟩ := k8 rfl
  exact ⟨d', k3, hc', q1, q2, q3, k5⟩
end
end Go.Proofs.YtabjamkkhlbajaaDoor
