import Derived.Test.YtcdocklbpfdmeaaDoorMTypes
import Derived.Test.YtcdocklbpfdmeaaDoorMWords
import Derived.BigRegion
import GoSem.Op.String
import Derived.Lib.Hide

/- Blake: small functions. -/
set_option linter.unusedSimpArgs false
set_option linter.unusedVariables false
set_option maxRecDepth 20000
namespace Go.Proofs.YtcdocklbpfdmeaaDoor
open Go.RowKit

/-- Four bytes as a number, the lowest first; the first k of them. -/
def leK (f : Nat → UInt8) : Nat → UInt32
  | 0 => 0
  | k + 1 => leK f k ||| (f k).toUInt32 <<< UInt32.ofNat (8 * k)
theorem shl_step (x : UInt32) (k : Nat) (hk : k < 4) : IntKind.u32.wrap (un x * 2 ^ (8 * k)) = un (x <<< UInt32.ofNat (8 * k)) := un_shl x (8 * k) (by omega)

set_option maxHeartbeats 400000 in
theorem little_any (g off len cap : Nat) (f : Nat → UInt8) (w : World) (hl : 4 ≤ len) (hm : len ≤ maxLen) (hc : ∀ j, j < 4 → w.cell? ⟨g, off + j, none⟩ = some (B (f j))) :
    Calls Tryd.prog 143 #[.slice (some ⟨g, off, none⟩) len cap] w fun e w' => e = .returned (U (leK f 4)) ∧ w = w' := by
  unfold maxLen at hm
  go_enter Tryd.func143, Tryd.ntmps143
  go_wp2
  go_loop [2, 4] (fun x i => ∃ k : Nat, k ≤ 4 ∧ i = .int .i64 k ∧ x = U (leK f k)) (fun _ i => 4 - (intOf i).toNat)
  case atStart => exact ⟨0, by omega, rfl, rfl⟩
  case round =>
    obtain ⟨k, hk, rfl, rfl⟩ := hrel
    by_cases hlt : k < 4
    · have h1 := hc k hlt
      go_wp2
      have h3 := shl_step (f k).toUInt32 k hlt
      rw [IntKind.wrap_u32] at h3
      refine ⟨⟨k + 1, by omega, by go_num, ?_⟩, by simp [intOf]; omega⟩
      rw [h3, un_or]; rfl
    · obtain rfl : k = 4 := by omega
      go_wp2
      go_ret
      exact ⟨rfl, rfl⟩

/-- A digit's number. -/
def digitI (n : Int) : Int := if 48 ≤ n ∧ n ≤ 57 then n - 48 else if 97 ≤ n ∧ n ≤ 102 then n - 87 else -1
set_option maxHeartbeats 400000 in
theorem digit_any (n : Int) (w : World) (h0 : 0 ≤ n) (h1 : n ≤ 255) :
    Calls Tryd.prog 141 #[.int .u8 n] w fun e w' => e = .returned (I (digitI n)) ∧ w = w' := by
  unfold digitI
  by_cases a : 48 ≤ n
  · by_cases b : n ≤ 57
    · rw [if_pos ⟨a, b⟩]
      go_enter Tryd.func141, Tryd.ntmps141
      go_wp2
      go_ret
      exact ⟨rfl, rfl⟩
    · rw [if_neg (by omega)]
      by_cases c : 97 ≤ n
      · by_cases d : n ≤ 102
        · rw [if_pos ⟨c, d⟩]
          go_enter Tryd.func141, Tryd.ntmps141
          go_wp2
          go_ret
          exact ⟨congrArg (fun x => Ending.returned (I x)) (by omega), rfl⟩
        · rw [if_neg (by omega)]
          go_enter Tryd.func141, Tryd.ntmps141
          go_wp2
          go_ret
          exact ⟨rfl, rfl⟩
      · rw [if_neg (by omega)]
        go_enter Tryd.func141, Tryd.ntmps141
        go_wp2
        go_ret
        exact ⟨rfl, rfl⟩
  · rw [if_neg (by omega), if_neg (by omega)]
    go_enter Tryd.func141, Tryd.ntmps141
    go_wp2
    go_ret
    exact ⟨rfl, rfl⟩

/-- The first numbers. -/
def startF : Nat → UInt32
  | 0 => 0x6A09E667 | 1 => 0xBB67AE85 | 2 => 0x3C6EF372 | 3 => 0xA54FF53A | 4 => 0x510E527F | 5 => 0x9B05688C | 6 => 0x1F83D9AB | 7 => 0x5BE0CD19 | _ => 0
theorem start_lit : (#[.int .u32 1779033703, .int .u32 3144134277, .int .u32 1013904242, .int .u32 2773480762, .int .u32 1359893119, .int .u32 2600822924, .int .u32 528734635, .int .u32 1541459225] : Array Value) = rowU 8 startF := by rfl

set_option maxHeartbeats 400000 in
theorem refstart_any (w : World) :
    Calls Tryd.prog 111 #[] w (Post w (.agg (rowU 8 startF))) := by
  go_enter Tryd.func111, Tryd.ntmps111
  go_wp2
  exact ret_row Tryd.results111 Tryd.underlying158 rfl info_a8u rfl (by simp [go_sem]; exact start_lit) rfl (post_mk rfl (ex_alloc (ex_refl _) _))

end Go.Proofs.YtcdocklbpfdmeaaDoor

/- Strings of digits to the base 16: places, one by one; Digit, Order. -/
set_option linter.unusedSimpArgs false
set_option linter.unusedVariables false
set_option maxRecDepth 20000
namespace Go.Proofs.YtcdocklbpfdmeaaDoor
open Go.RowKit

/-- The orders, the fours: place by place. -/
def ordersN : List Nat := [0, 1, 2, 3, 4, 5, 6, 7, 8, 9, 10, 11, 12, 13, 14, 15, 14, 10, 4, 8, 9, 15, 13, 6, 1, 12, 0, 2, 11, 7, 5, 3, 11, 8, 12, 0, 5, 2, 15, 13, 10, 14, 3, 6, 7, 1, 9, 4, 7, 9, 3, 1, 13, 12, 11, 14, 2, 6, 5, 10, 4, 0, 15, 8, 9, 0, 5, 7, 2, 4, 10, 15, 14, 1, 11, 12, 6, 8, 3, 13, 2, 12, 6, 10, 0, 11, 8, 3, 4, 13, 7, 5, 15, 14, 1, 9, 12, 5, 1, 15, 14, 13, 4, 10, 0, 7, 6, 3, 9, 2, 8, 11, 13, 11, 7, 14, 12, 1, 3, 9, 5, 0, 15, 4, 8, 6, 2, 10, 6, 15, 14, 9, 11, 3, 0, 8, 12, 2, 13, 7, 1, 4, 10, 5, 10, 2, 8, 4, 7, 6, 1, 5, 15, 11, 9, 14, 3, 12, 13, 0]
def foursN : List Nat := [0, 4, 8, 12, 1, 5, 9, 13, 2, 6, 10, 14, 3, 7, 11, 15, 0, 5, 10, 15, 1, 6, 11, 12, 2, 7, 8, 13, 3, 4, 9, 14]
def ordersF (i : Nat) : Int := (ordersN.getD i 0 : Nat)
def foursF (i : Nat) : Int := (foursN.getD i 0 : Nat)
theorem ord_lt (i : Nat) : ordersN.getD i 0 < 16 := by
  by_cases h : i < 160
  · exact (by decide : ∀ i : Fin 160, ordersN.getD i 0 < 16) ⟨i, h⟩
  · rw [List.getD_eq_getElem?_getD, List.getElem?_eq_none (by simp [ordersN]; omega)]; decide
theorem four_lt (i : Nat) : foursN.getD i 0 < 16 := by
  by_cases h : i < 32
  · exact (by decide : ∀ i : Fin 32, foursN.getD i 0 < 16) ⟨i, h⟩
  · rw [List.getD_eq_getElem?_getD, List.getElem?_eq_none (by simp [foursN]; omega)]; decide

/-- The digit of a place. -/
def dig (n : Nat) : UInt8 := if n < 10 then UInt8.ofNat (48 + n) else UInt8.ofNat (87 + n)
/-- A text of digits. -/
def strD (n : Nat) (p : Nat → Nat) : ByteArray := ⟨((List.range n).map fun i => dig (p i)).toArray⟩
theorem strD_size (n : Nat) (p : Nat → Nat) : (strD n p).size = n := by simp [strD, ByteArray.size]
theorem strD_at (n : Nat) (p : Nat → Nat) (i : Nat) (h : i < (strD n p).size) : (strD n p)[i] = dig (p i) := by
  have h2 : i < (strD n p).data.size := h
  have : (strD n p).data[i] = dig (p i) := by simp [strD]
  exact this
theorem index_strD {P : Program} {t : TypeId} (hu : P.underlying t = some .string) (n : Nat) (p : Nat → Nat) (i : Int) (w : World) :
    (Instr.index t (.string (strD n p)) (.int .i64 i)).run P w = if 0 ≤ i ∧ i < n then .ok (.int .u8 (bn (dig (p i.toNat)))) w else idxRaw P t (.string (strD n p)) (.int .i64 i) w := by
  split
  · rename_i h
    rw [run_index_string w t (strD n p) .i64 i hu, dif_pos (by rw [strD_size]; exact h)]
    congr 2
    unfold bn
    rw [strD_at]
  · rfl
@[go_sem high] theorem index_strD' (n : Nat) (p : Nat → Nat) (i : Int) (w : World) :
    (Instr.index 9 (.string (strD n p)) (.int .i64 i)).run Tryd.prog w = if 0 ≤ i ∧ i < n then .ok (.int .u8 (bn (dig (p i.toNat)))) w else idxRaw Tryd.prog 9 (.string (strD n p)) (.int .i64 i) w := index_strD Tryd.underlying9 n p i w
theorem digitI_dig (n : Nat) (h : n < 16) : digitI (bn (dig n)) = n := by
  exact (by decide : ∀ n : Fin 16, digitI ((dig n).toNat : Int) = n) ⟨n, h⟩
theorem digit_place (n : Nat) (h : n < 16) (w : World) :
    Calls Tryd.prog 141 #[.int .u8 (bn (dig n))] w fun e w' => e = .returned (I n) ∧ w = w' := by
  have h2 := bn_lt (dig n)
  have := digit_any (bn (dig n)) w h2.1 (by omega)
  rw [digitI_dig n h] at this
  exact this
/-- A row of texts. -/
def rowS (n : Nat) (f : Nat → ByteArray) : Array Value := ((List.range n).map fun i => Value.string (f i)).toArray
theorem rowS_get (n : Nat) (f : Nat → ByteArray) (i : Nat) : (rowS n f)[i]? = if i < n then some (.string (f i)) else none := by
  simp only [rowS, List.getElem?_toArray, List.getElem?_map, List.getElem?_range]
  by_cases h : i < n <;> simp [h]
/-- An index of a row of texts that is written out. -/
theorem index_rowS {P : Program} {t e : TypeId} {n : Nat} (hu : P.underlying t = some (.array n e)) (hd : P.underlying e = some .string) (hi : (P.info? e).map (·.size) = some 1) (f : Nat → ByteArray) (i : Int) (w : World) :
    (Instr.index t (.agg (rowS n f)) (.int .i64 i)).run P w = if 0 ≤ i ∧ i < n then .ok (.string (f i.toNat)) w else idxRaw P t (.agg (rowS n f)) (.int .i64 i) w := by
  rw [index_one hu hd rfl hi]
  split
  · rename_i h
    rw [rowS_get, if_pos (by omega)]
  · rfl
def orderS (i : Nat) : ByteArray := strD 16 fun j => ordersN.getD (i * 16 + j) 0
def fourS (i : Nat) : ByteArray := strD 4 fun j => foursN.getD (i * 4 + j) 0
theorem order_rows : (#[.string ⟨#[48, 49, 50, 51, 52, 53, 54, 55, 56, 57, 97, 98, 99, 100, 101, 102]⟩, .string ⟨#[101, 97, 52, 56, 57, 102, 100, 54, 49, 99, 48, 50, 98, 55, 53, 51]⟩, .string ⟨#[98, 56, 99, 48, 53, 50, 102, 100, 97, 101, 51, 54, 55, 49, 57, 52]⟩, .string ⟨#[55, 57, 51, 49, 100, 99, 98, 101, 50, 54, 53, 97, 52, 48, 102, 56]⟩, .string ⟨#[57, 48, 53, 55, 50, 52, 97, 102, 101, 49, 98, 99, 54, 56, 51, 100]⟩, .string ⟨#[50, 99, 54, 97, 48, 98, 56, 51, 52, 100, 55, 53, 102, 101, 49, 57]⟩, .string ⟨#[99, 53, 49, 102, 101, 100, 52, 97, 48, 55, 54, 51, 57, 50, 56, 98]⟩, .string ⟨#[100, 98, 55, 101, 99, 49, 51, 57, 53, 48, 102, 52, 56, 54, 50, 97]⟩, .string ⟨#[54, 102, 101, 57, 98, 51, 48, 56, 99, 50, 100, 55, 49, 52, 97, 53]⟩, .string ⟨#[97, 50, 56, 52, 55, 54, 49, 53, 102, 98, 57, 101, 51, 99, 100, 48]⟩] : Array Value) = rowS 10 orderS := by kernel_rfl
theorem four_rows : (#[.string ⟨#[48, 52, 56, 99]⟩, .string ⟨#[49, 53, 57, 100]⟩, .string ⟨#[50, 54, 97, 101]⟩, .string ⟨#[51, 55, 98, 102]⟩, .string ⟨#[48, 53, 97, 102]⟩, .string ⟨#[49, 54, 98, 99]⟩, .string ⟨#[50, 55, 56, 100]⟩, .string ⟨#[51, 52, 57, 101]⟩] : Array Value) = rowS 8 fourS := by kernel_rfl
@[go_sem high] theorem order_at (i : Int) (w : World) : (Instr.index 204 (.agg #[.string ⟨#[48, 49, 50, 51, 52, 53, 54, 55, 56, 57, 97, 98, 99, 100, 101, 102]⟩, .string ⟨#[101, 97, 52, 56, 57, 102, 100, 54, 49, 99, 48, 50, 98, 55, 53, 51]⟩, .string ⟨#[98, 56, 99, 48, 53, 50, 102, 100, 97, 101, 51, 54, 55, 49, 57, 52]⟩, .string ⟨#[55, 57, 51, 49, 100, 99, 98, 101, 50, 54, 53, 97, 52, 48, 102, 56]⟩, .string ⟨#[57, 48, 53, 55, 50, 52, 97, 102, 101, 49, 98, 99, 54, 56, 51, 100]⟩, .string ⟨#[50, 99, 54, 97, 48, 98, 56, 51, 52, 100, 55, 53, 102, 101, 49, 57]⟩, .string ⟨#[99, 53, 49, 102, 101, 100, 52, 97, 48, 55, 54, 51, 57, 50, 56, 98]⟩, .string ⟨#[100, 98, 55, 101, 99, 49, 51, 57, 53, 48, 102, 52, 56, 54, 50, 97]⟩, .string ⟨#[54, 102, 101, 57, 98, 51, 48, 56, 99, 50, 100, 55, 49, 52, 97, 53]⟩, .string ⟨#[97, 50, 56, 52, 55, 54, 49, 53, 102, 98, 57, 101, 51, 99, 100, 48]⟩]) (.int .i64 i)).run Tryd.prog w = if 0 ≤ i ∧ i < (10 : Nat) then .ok (.string (orderS i.toNat)) w else idxRaw Tryd.prog 204 (.agg (rowS 10 orderS)) (.int .i64 i) w := by
  rw [order_rows]; exact index_rowS (n := 10) Tryd.underlying204 Tryd.underlying9 (by kernel_rfl) orderS i w
@[go_sem high] theorem four_at (i : Int) (w : World) : (Instr.index 186 (.agg #[.string ⟨#[48, 52, 56, 99]⟩, .string ⟨#[49, 53, 57, 100]⟩, .string ⟨#[50, 54, 97, 101]⟩, .string ⟨#[51, 55, 98, 102]⟩, .string ⟨#[48, 53, 97, 102]⟩, .string ⟨#[49, 54, 98, 99]⟩, .string ⟨#[50, 55, 56, 100]⟩, .string ⟨#[51, 52, 57, 101]⟩]) (.int .i64 i)).run Tryd.prog w = if 0 ≤ i ∧ i < (8 : Nat) then .ok (.string (fourS i.toNat)) w else idxRaw Tryd.prog 186 (.agg (rowS 8 fourS)) (.int .i64 i) w := by
  rw [four_rows]; exact index_rowS (n := 8) Tryd.underlying186 Tryd.underlying9 (by kernel_rfl) fourS i w
set_option maxHeartbeats 400000 in
theorem order_any (n : Nat) (hn : n < 10) (w : World) :
    Calls Tryd.prog 139 #[I n] w fun e w' => e = .returned (.string (orderS n)) ∧ w = w' := by
  have hn' : ((n : Nat) : Int) < 10 := by omega
  go_enter Tryd.func139, Tryd.ntmps139
  go_wp2
  go_ret
  exact ⟨rfl, rfl⟩
end Go.Proofs.YtcdocklbpfdmeaaDoor

/- What a block's numbers become: in plain Lean, and the mixing over rows. -/
set_option linter.unusedSimpArgs false
set_option linter.unusedVariables false
set_option maxRecDepth 20000
namespace Go.Proofs.YtcdocklbpfdmeaaDoor
open Go.RowKit

/-- Four numbers that are mixed, place by place. -/
def mixL (a b c d x y : UInt32) : Nat → UInt32 := fun k => (mix4 a b c d x y).getD k 0
theorem mix_rowed (a b c d x y : UInt32) (w : World) :
    Calls Tryd.prog 144 #[.agg #[U a, U b, U c, U d], U x, U y] w (Post w (.agg (rowU 4 (mixL a b c d x y)))) := mix_any a b c d x y w
/-- The first k of them laid back. -/
def stepK (v : Nat → UInt32) (p : Nat → Nat) (l : Nat → UInt32) : Nat → (Nat → UInt32)
  | 0 => v
  | k + 1 => upd (stepK v p l k) (p k) (l k)
/-- One mixing of sixteen numbers. -/
def step (v : Nat → UInt32) (p : Nat → Nat) (x y : UInt32) : Nat → UInt32 := stepK v p (mixL (v (p 0)) (v (p 1)) (v (p 2)) (v (p 3)) x y) 4
/-- The first i mixings of a round; the first n rounds. -/
def rndI (m : Nat → UInt32) (s : Nat → Nat) (v : Nat → UInt32) : Nat → (Nat → UInt32)
  | 0 => v
  | i + 1 => step (rndI m s v i) (fun k => foursN.getD (i * 4 + k) 0) (m (s (2 * i))) (m (s (2 * i + 1)))
def rndN (m : Nat → UInt32) (v : Nat → UInt32) : Nat → (Nat → UInt32)
  | 0 => v
  | n + 1 => rndI m (fun j => ordersN.getD (n * 16 + j) 0) (rndN m v n) 8
/-- What is mixed first. -/
def v0F (h : Nat → UInt32) (t : UInt64) (last : Bool) : Nat → UInt32 :=
  let v := over (over (fun _ => 0) 0 8 h) 8 8 startF
  let v1 := upd v 12 (v 12 ^^^ t.toUInt32)
  let v2 := upd v1 13 (v1 13 ^^^ (t >>> 32).toUInt32)
  if last then upd v2 14 (~~~ v2 14) else v2
def wordsF (b : Nat → UInt8) : Nat → UInt32 := fun j => leK (shiftF b (4 * j)) 4
def blockF (h : Nat → UInt32) (b : Nat → UInt8) (t : UInt64) (last : Bool) : Nat → UInt32 :=
  let v := rndN (wordsF b) (v0F h t last) 10
  fun i => h i ^^^ (v i ^^^ v (i + 8))

/-- A row of places. -/
def natI (s : Nat → Nat) : Nat → Int := fun j => (s j : Nat)
@[go_sem] theorem natI_at (s : Nat → Nat) (j : Nat) : natI s j = (s j : Nat) := rfl
theorem ordersF_shift (n : Nat) : shiftF ordersF (n * 16) = natI (fun j => ordersN.getD (n * 16 + j) 0) := rfl
theorem foursF_shift (n : Nat) : shiftF foursF (n * 4) = natI (fun j => foursN.getD (n * 4 + j) 0) := rfl

end Go.Proofs.YtcdocklbpfdmeaaDoor

/- A digest, in plain Lean. -/
set_option linter.unusedSimpArgs false
set_option linter.unusedVariables false
set_option maxRecDepth 20000
namespace Go.Proofs.YtcdocklbpfdmeaaDoor
/-- The numbers ahead of the first block; behind k blocks that are not the last. -/
def sumK (f : Nat → UInt8) : Nat → (Nat → UInt32)
  | 0 => upd startF 0 (startF 0 ^^^ 16842784)
  | k + 1 => blockF (sumK f k) (shiftF f (64 * k)) (UInt64.ofNat (64 * k + 64)) false
/-- How many blocks stand ahead of the last. -/
def lastK (n : Nat) : Nat := (n - 1) / 64
def tailF (f : Nat → UInt8) (n k : Nat) : Nat → UInt8 := over (fun _ => 0) 0 (n - 64 * k) (shiftF f (64 * k))
def sumU (f : Nat → UInt8) (n : Nat) : Nat → UInt32 := blockF (sumK f (lastK n)) (tailF f n (lastK n)) (UInt64.ofNat n) true
/-- The bytes of numbers. -/
def byteF (h : Nat → UInt32) : Nat → UInt8 := fun i => (h (i / 4) >>> UInt32.ofNat (8 * (i % 4))).toUInt8
def sumF (f : Nat → UInt8) (n : Nat) : Nat → UInt8 := byteF (sumU f n)
end Go.Proofs.YtcdocklbpfdmeaaDoor

/- A list that only grows, under one digest: roots, paths, proofs, in plain Lean. -/
set_option linter.unusedSimpArgs false
set_option linter.unusedVariables false
namespace Go.Proofs.YtcdocklbpfdmeaaDoor
/-! ### Digests -/
abbrev Dg := Vector UInt8 32
/-- A list of bytes as what stands at a place. -/
def gF (l : List UInt8) : Nat → UInt8 := fun i => l.getD i 0
def ofF (f : Nat → UInt8) : Dg := Vector.ofFn fun i : Fin 32 => f i.val
def dF (d : Dg) : Nat → UInt8 := fun i => d.toArray.getD i 0
def sumD (l : List UInt8) : Dg := ofF (sumF (gF l) l.length)
theorem dF_ofF (f : Nat → UInt8) (i : Nat) (h : i < 32) : dF (ofF f) i = f i := by
  simp [dF, ofF, Array.getD_eq_getD_getElem?, h]
theorem dF_inj {d d' : Dg} (h : ∀ i, i < 32 → dF d i = dF d' i) : d = d' := by
  apply Vector.ext
  intro i hi
  have := h i hi
  simpa [dF, Array.getD_eq_getD_getElem?, hi] using this
def bytesD (d : Dg) : List UInt8 := (List.range 32).map (dF d)
theorem bytesD_len (d : Dg) : (bytesD d).length = 32 := by simp [bytesD]
def zeroD : Dg := ofF fun _ => 0
/-! ### Halves -/
def splitN (n : Nat) : Nat := 2 ^ Nat.log2 (n - 1)
theorem split_pos (n : Nat) : 0 < splitN n := Nat.two_pow_pos _
theorem split_lt {n : Nat} (h : 2 ≤ n) : splitN n < n := by
  have := Nat.log2_self_le (n := n - 1) (by omega)
  unfold splitN; omega
theorem split_uniq {n j : Nat} (h1 : 2 ^ j < n) (h2 : n ≤ 2 * 2 ^ j) : splitN n = 2 ^ j := by
  unfold splitN
  congr 1
  rw [Nat.log2_eq_iff (by omega)]
  rw [Nat.pow_succ]; omega
/-! ### Roots, paths, proofs -/
/-! ### Ways -/
/-! ### Both roots -/
end Go.Proofs.YtcdocklbpfdmeaaDoor

/- Search: pairs, their order, their digests. The plain law. -/
set_option linter.unusedSimpArgs false
set_option linter.unusedVariables false
namespace Go.Proofs.YtcdocklbpfdmeaaDoor
abbrev Pr := ByteArray × ByteArray
abbrev ltS (a b : ByteArray) : Bool := Op.bytesLess a.toList b.toList
abbrev eqS (a b : ByteArray) : Bool := a.toList == b.toList
theorem bl_le : ∀ x y : List UInt8, (Op.bytesLess x y || x == y) = !Op.bytesLess y x
  | [], [] => rfl
  | [], _ :: _ => rfl
  | _ :: _, [] => rfl
  | a :: x, b :: y => by
    have ih := bl_le x y
    simp only [Op.bytesLess, List.cons_beq_cons]
    by_cases h1 : a < b
    · have h2 : ¬ b < a := UInt8.lt_asymm h1
      have h3 : (b == a) = false := by rw [beq_eq_false_iff_ne]; intro h; subst h; exact h2 h1
      simp [h1, h2, h3]
    · by_cases h4 : b < a
      · have h3 : (a == b) = false := by rw [beq_eq_false_iff_ne]; intro h; subst h; exact h1 h4
        simp [h1, h4, h3]
      · have h5 : a = b := UInt8.le_antisymm (UInt8.not_lt.1 h4) (UInt8.not_lt.1 h1)
        subst h5
        simpa [h1] using ih
theorem leS (a b : ByteArray) : (ltS a b || eqS a b) = !ltS b a := bl_le _ _
/-- A pair of a row may be. -/
def prAt (l : List Pr) (i : Nat) : Pr := l.getD i default
def badAt (l : List Pr) (i : Nat) : Bool :=
  decide ((prAt l i).1.size < 1) || decide (200 < (prAt l i).1.size) || decide (1000 < (prAt l i).2.size) || (decide (0 < i) && !ltS (prAt l (i - 1)).1 (prAt l i).1) || decide (i = 200)
def rightP (l : List Pr) : Bool := (List.range l.length).all fun i => !badAt l i
theorem right_iff {l : List Pr} : rightP l = true ↔ ∀ i, i < l.length → badAt l i = false := by simp [rightP]
theorem right_bad {l : List Pr} {i : Nat} (hi : i < l.length) (h : badAt l i = true) : rightP l = false := by
  cases hr : rightP l with
  | false => rfl
  | true => rw [right_iff.1 hr i hi] at h; cases h
/-- Does a key stand in a range? -/
structure Rg where
  lo : ByteArray
  hi : ByteArray
  op : Bool
def inP (r : Rg) (k : ByteArray) : Bool := !ltS k r.lo && (r.op || ltS k r.hi)
/-- The bytes of a number, the highest first. -/
def hiL (x n : Nat) : List UInt8 := (List.range n).map fun j => UInt8.ofNat (x / 256 ^ (n - 1 - j))
theorem hiL_len (x n : Nat) : (hiL x n).length = n := by simp [hiL]
def someL (s : ByteArray) : List UInt8 := hiL (min s.size 65535) 2 ++ s.data.toList.take 65535
def leafL (p : Pr) : List UInt8 := [0] ++ someL p.1 ++ someL p.2
end Go.Proofs.YtcdocklbpfdmeaaDoor

/- Three leaves: their digests, reckoned. -/
set_option linter.unusedSimpArgs false
set_option linter.unusedVariables false
namespace Go.Proofs.YtcdocklbpfdmeaaDoor
def unitD (b : UInt8) : Dg := ofF fun i => if i = 0 then b else 0
def litD (l : List UInt8) : Dg := ofF (gF l)
def three : List Dg := [unitD 1, unitD 2, unitD 3]
theorem split2 : splitN 2 = 1 := by decide +kernel
end Go.Proofs.YtcdocklbpfdmeaaDoor

/- bits.Len; the greatest power of two below a number. -/
set_option linter.unusedSimpArgs false
set_option linter.unusedVariables false
set_option maxRecDepth 20000
namespace Go.Proofs.YtcdocklbpfdmeaaDoor
open Go.RowKit
def len8 : ByteArray := ⟨#[0, 1, 2, 2, 3, 3, 3, 3, 4, 4, 4, 4, 4, 4, 4, 4, 5, 5, 5, 5, 5, 5, 5, 5, 5, 5, 5, 5, 5, 5, 5, 5, 6, 6, 6, 6, 6, 6, 6, 6, 6, 6, 6, 6, 6, 6, 6, 6, 6, 6, 6, 6, 6, 6, 6, 6, 6, 6, 6, 6, 6, 6, 6, 6, 7, 7, 7, 7, 7, 7, 7, 7, 7, 7, 7, 7, 7, 7, 7, 7, 7, 7, 7, 7, 7, 7, 7, 7, 7, 7, 7, 7, 7, 7, 7, 7, 7, 7, 7, 7, 7, 7, 7, 7, 7, 7, 7, 7, 7, 7, 7, 7, 7, 7, 7, 7, 7, 7, 7, 7, 7, 7, 7, 7, 7, 7, 7, 7, 8, 8, 8, 8, 8, 8, 8, 8, 8, 8, 8, 8, 8, 8, 8, 8, 8, 8, 8, 8, 8, 8, 8, 8, 8, 8, 8, 8, 8, 8, 8, 8, 8, 8, 8, 8, 8, 8, 8, 8, 8, 8, 8, 8, 8, 8, 8, 8, 8, 8, 8, 8, 8, 8, 8, 8, 8, 8, 8, 8, 8, 8, 8, 8, 8, 8, 8, 8, 8, 8, 8, 8, 8, 8, 8, 8, 8, 8, 8, 8, 8, 8, 8, 8, 8, 8, 8, 8, 8, 8, 8, 8, 8, 8, 8, 8, 8, 8, 8, 8, 8, 8, 8, 8, 8, 8, 8, 8, 8, 8, 8, 8, 8, 8, 8, 8, 8, 8, 8, 8, 8, 8, 8, 8, 8, 8, 8, 8]⟩
def lenI (i : Int) : Int := if i = 0 then 0 else (Nat.log2 i.toNat + 1 : Nat)
theorem len8_at (k : Nat) (h : k < 256) : ((len8.data.getD k 0).toNat : Int) = lenI k := by
  have : ∀ k : Fin 256, ((len8.data.getD k.val 0).toNat : Int) = lenI k.val := by decide +kernel
  exact this ⟨k, h⟩
@[local go_sem high] theorem index_len8 (i : Int) (w : World) : (Instr.index 9 (.string ⟨#[0, 1, 2, 2, 3, 3, 3, 3, 4, 4, 4, 4, 4, 4, 4, 4, 5, 5, 5, 5, 5, 5, 5, 5, 5, 5, 5, 5, 5, 5, 5, 5, 6, 6, 6, 6, 6, 6, 6, 6, 6, 6, 6, 6, 6, 6, 6, 6, 6, 6, 6, 6, 6, 6, 6, 6, 6, 6, 6, 6, 6, 6, 6, 6, 7, 7, 7, 7, 7, 7, 7, 7, 7, 7, 7, 7, 7, 7, 7, 7, 7, 7, 7, 7, 7, 7, 7, 7, 7, 7, 7, 7, 7, 7, 7, 7, 7, 7, 7, 7, 7, 7, 7, 7, 7, 7, 7, 7, 7, 7, 7, 7, 7, 7, 7, 7, 7, 7, 7, 7, 7, 7, 7, 7, 7, 7, 7, 7, 8, 8, 8, 8, 8, 8, 8, 8, 8, 8, 8, 8, 8, 8, 8, 8, 8, 8, 8, 8, 8, 8, 8, 8, 8, 8, 8, 8, 8, 8, 8, 8, 8, 8, 8, 8, 8, 8, 8, 8, 8, 8, 8, 8, 8, 8, 8, 8, 8, 8, 8, 8, 8, 8, 8, 8, 8, 8, 8, 8, 8, 8, 8, 8, 8, 8, 8, 8, 8, 8, 8, 8, 8, 8, 8, 8, 8, 8, 8, 8, 8, 8, 8, 8, 8, 8, 8, 8, 8, 8, 8, 8, 8, 8, 8, 8, 8, 8, 8, 8, 8, 8, 8, 8, 8, 8, 8, 8, 8, 8, 8, 8, 8, 8, 8, 8, 8, 8, 8, 8, 8, 8, 8, 8, 8, 8, 8, 8]⟩) (.int .u8 i)).run Tryd.prog w = if 0 ≤ i ∧ i < 256 then .ok (.int .u8 (lenI i)) w else idxRaw Tryd.prog 9 (.string len8) (.int .u8 i) w := by
  show (Instr.index 9 (.string len8) (.int .u8 i)).run Tryd.prog w = _
  split
  · rename_i h
    have hs : len8.size = 256 := by decide +kernel
    rw [run_index_string w 9 len8 .u8 i Tryd.underlying9, dif_pos (by rw [hs]; exact h)]
    have h2 := len8_at i.toNat (by omega)
    rw [Int.toNat_of_nonneg h.1] at h2
    rw [← h2]
    congr 2
    rw [Array.getD_eq_getD_getElem?, Array.getElem?_eq_getElem (show i.toNat < len8.data.size from by have : len8.data.size = 256 := hs; omega)]
    rfl
  · rfl
theorem log2_256 {n : Nat} (h : 256 ≤ n) : Nat.log2 n = Nat.log2 (n / 256) + 8 := by
  have h1 := Nat.log2_self_le (n := n / 256) (by omega)
  have h2 := Nat.lt_log2_self (n := n / 256)
  rw [Nat.log2_eq_iff (by omega)]
  generalize Nat.log2 (n / 256) = k at h1 h2
  rw [show k + 8 + 1 = (k + 1) + 8 by omega, Nat.pow_add 2 k 8, Nat.pow_add 2 (k + 1) 8]
  omega
theorem log2_lt {n k : Nat} (h : n < 2 ^ k) (h0 : 0 < n) : Nat.log2 n < k := by
  rw [Nat.log2_lt (by omega)]; exact h
theorem len64_any (n : Nat) (h1 : 1 ≤ n) (h : n < 65536) (w : World) :
    Calls Tryd.prog 147 #[.int .u64 (n : Int)] w fun e w' => e = .returned (I (Nat.log2 n + 1 : Nat)) ∧ w = w' := by
  have hl : Nat.log2 n < 16 := log2_lt h (by omega)
  have e1 : ¬ (4294967296 : Int) ≤ n := by omega
  have e2 : ¬ (65536 : Int) ≤ n := by omega
  by_cases h8 : 256 ≤ n
  · have e3 : (256 : Int) ≤ n := by omega
    have hq := log2_256 h8
    have e4 : lenI ((n : Int) / 256) = (Nat.log2 n - 7 : Nat) := by
      unfold lenI
      rw [if_neg (by omega), show ((n : Int) / 256).toNat = n / 256 by omega, hq]; omega
    have e5 : (n : Int) / 256 < 256 := by omega
    have e6 : 0 ≤ (n : Int) / 256 := by omega
    have e7 : (n : Int) / 256 % 256 = (n : Int) / 256 := by omega
    have HL : Hid (8 ≤ Nat.log2 n) := Lib.hid (by omega)
    clear hq
    go_enter Tryd.func147, Tryd.ntmps147
    go_wp2
    go_ret
    refine ⟨?_, rfl⟩
    have := HL.out
    go_num
  · have e3 : ¬ (256 : Int) ≤ n := by omega
    have e4 : lenI (n : Int) = (Nat.log2 n + 1 : Nat) := by
      unfold lenI
      rw [if_neg (by omega), Int.toNat_natCast]
    have e5 : (n : Int) % 256 = n := by omega
    have e6 : (n : Int) < 256 := by omega
    go_enter Tryd.func147, Tryd.ntmps147
    go_wp2
    go_ret
    refine ⟨?_, rfl⟩
    go_num
theorem len_any (n : Nat) (h1 : 1 ≤ n) (h : n < 65536) (w : World) :
    Calls Tryd.prog 127 #[.int .u64 (n : Int)] w fun e w' => e = .returned (I (Nat.log2 n + 1 : Nat)) ∧ w = w' := by
  go_enter Tryd.func127, Tryd.ntmps127
  go_wp2_with (go_at_call 147; refine (len64_any n h1 h _).mono ?_; rintro e w' ⟨rfl, rfl⟩)
  go_ret
  exact ⟨rfl, rfl⟩
theorem split_any (n : Nat) (h1 : 2 ≤ n) (h : n < 65536) (w : World) :
    Calls Tryd.prog 87 #[I n] w fun e w' => e = .returned (I (splitN n)) ∧ w = w' := by
  have hl : Nat.log2 (n - 1) < 16 := log2_lt (by omega) (by omega)
  go_enter Tryd.func87, Tryd.ntmps87
  have e1 : ((n : Int) - 1) = ((n - 1 : Nat) : Int) := by omega
  go_wp2_with (go_at_call 127; refine (len_any (n - 1) (by omega) (by omega) _).mono ?_; rintro e w' ⟨rfl, rfl⟩)
  go_ret
  have hp : (2 : Nat) ^ (n - 1).log2 < 65536 := Nat.pow_lt_pow_right (by omega) hl
  have hp2 : ((2 : Int) ^ (n - 1).log2) = ((2 ^ (n - 1).log2 : Nat) : Int) := by simp
  refine ⟨?_, rfl⟩
  unfold splitN
  show Ending.returned (.int .i64 (wrap64 (2 ^ (n - 1).log2))) = _
  rw [hp2]
  generalize 2 ^ (n - 1).log2 = q at hp ⊢
  rw [show wrap64 (q : Int) = q by unfold wrap64; omega]
/-- The greatest power of two below, or nothing. -/
def SplitN (n : Int) : Nat := if n < 2 ∨ 1024 < n then 0 else splitN n.toNat
theorem SplitN_in {n : Nat} (h1 : 2 ≤ n) (h2 : n ≤ 1024) : SplitN n = splitN n := by
  unfold SplitN; rw [if_neg (by omega), Int.toNat_natCast]
theorem Split_any (n : Int) (w : World) : Calls Tryd.prog 133 #[I n] w fun e w' => e = .returned (I (SplitN n)) ∧ w = w' := by
  by_cases h1 : n < 2
  · have hs : SplitN n = 0 := by unfold SplitN; rw [if_pos (Or.inl h1)]
    rw [hs]
    go_enter Tryd.func133, Tryd.ntmps133
    go_wp2
    go_ret
    exact ⟨rfl, rfl⟩
  · by_cases h2 : 1024 < n
    · have hs : SplitN n = 0 := by unfold SplitN; rw [if_pos (Or.inr h2)]
      rw [hs]
      go_enter Tryd.func133, Tryd.ntmps133
      go_wp2
      go_ret
      exact ⟨rfl, rfl⟩
    · obtain ⟨m, rfl⟩ : ∃ m : Nat, n = m := ⟨n.toNat, by omega⟩
      rw [SplitN_in (by omega) (by omega)]
      go_enter Tryd.func133, Tryd.ntmps133
      go_wp2_with (go_at_call 87; refine (split_any m (by omega) (by omega) _).mono ?_; rintro e w' ⟨rfl, rfl⟩)
      go_ret
      exact ⟨rfl, rfl⟩
theorem refSplit_any (n : Int) (w : World) : Calls Tryd.prog 80 #[I n] w fun e w' => e = .returned (I (SplitN n)) ∧ w = w' := by
  by_cases h1 : n < 2
  · have hs : SplitN n = 0 := by unfold SplitN; rw [if_pos (Or.inl h1)]
    rw [hs]
    go_enter Tryd.func80, Tryd.ntmps80
    go_wp2
    go_ret
    exact ⟨rfl, rfl⟩
  · by_cases h2 : 1024 < n
    · have hs : SplitN n = 0 := by unfold SplitN; rw [if_pos (Or.inr h2)]
      rw [hs]
      go_enter Tryd.func80, Tryd.ntmps80
      go_wp2
      go_ret
      exact ⟨rfl, rfl⟩
    · obtain ⟨m, rfl⟩ : ∃ m : Nat, n = m := ⟨n.toNat, by omega⟩
      rw [SplitN_in (by omega) (by omega)]
      go_enter Tryd.func80, Tryd.ntmps80
      go_wp2
      go_loopw [3] (fun i wr => ∃ q : Nat, 1 ≤ q ∧ q < m ∧ i = I q ∧ Hid (∃ j, q = 2 ^ j) ∧ wr = w) (fun i _ => m - (intOf i).toNat)
      case atStart => exact ⟨1, by omega, by omega, rfl, Lib.hid ⟨0, rfl⟩, rfl⟩
      case round =>
        obtain ⟨q, hq1, hq2, rfl, hj, rfl⟩ := hrel
        by_cases hlt : 2 * q < m
        · have hlt' : 2 * (q : Int) < m := by omega
          go_wp2
          refine ⟨⟨2 * q, by omega, hlt, by go_num, ?_, by trivial⟩, by simp [intOf]; omega⟩
          obtain ⟨j, rfl⟩ := hj.out
          exact Lib.hid ⟨j + 1, by rw [Nat.pow_succ]; omega⟩
        · have hlt' : ¬ 2 * (q : Int) < m := by omega
          go_wp2
          go_ret
          refine ⟨?_, by trivial⟩
          obtain ⟨j, rfl⟩ := hj.out
          rw [split_uniq hq2 (by omega)]
          rfl
end Go.Proofs.YtcdocklbpfdmeaaDoor
