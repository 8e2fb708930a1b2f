import Derived.Test.YtcdocklbpfdmeaaDoorMWords
import Derived.Test.YtcdocklbpfdmeaaDoorChecked
import Derived.BigRegion

/- Mix and Unmix of both texts: what each call does. -/
set_option linter.unusedSimpArgs false
set_option linter.unusedVariables false
set_option maxRecDepth 20000
namespace Go.Proofs.YtcdocklbpfdmeaaDoor
open Go.RowKit

/-- x turned right by k. -/
def rr (x : UInt32) (k : Nat) : UInt32 := x >>> UInt32.ofNat k ||| x <<< UInt32.ofNat (32 - k)
theorem rr_int (x : UInt32) (k : Nat) (hk : 0 < k ∧ k < 32) : bits BinOp.or IntKind.u32 (un x / 2 ^ k) (un x * 2 ^ (32 - k) % 4294967296) = un (rr x k) := by
  have h1 := un_shr x k (by omega)
  have h2 := un_shl x (32 - k) (by omega)
  rw [IntKind.wrap_u32] at h2
  rw [h1, h2, un_or]; rfl
theorem rr_int' (x : UInt32) (k : Nat) (hk : 0 < k ∧ k < 32) : bits BinOp.or IntKind.u32 (un x * 2 ^ (32 - k) % 4294967296) (un x / 2 ^ k) = un (rr x k) := by
  have h1 := un_shr x k (by omega)
  have h2 := un_shl x (32 - k) (by omega)
  rw [IntKind.wrap_u32] at h2
  rw [h1, h2, un_or, UInt32.or_comm]; rfl

set_option maxHeartbeats 400000 in
theorem turned_any (x : UInt32) (k : Nat) (hk : 0 < k ∧ k < 32) (w : World) :
    Calls Tryd.prog 155 #[U x, .int .i64 k] w fun e w' => e = .returned (U (rr x k)) ∧ w.drew = w' := by
  go_enter Tryd.func155, Tryd.ntmps155
  go_wp2
  go_region
  go_wp2
  go_ret
  exact ⟨congrArg (fun n => Ending.returned (Value.int IntKind.u32 n)) (rr_int x k hk), rfl⟩

theorem turned16 (x : UInt32) (w : World) : Calls Tryd.prog 155 #[U x, .int .i64 16] w fun e w' => e = .returned (U (rr x 16)) ∧ w.drew = w' := turned_any x 16 (by omega) w
theorem turned12 (x : UInt32) (w : World) : Calls Tryd.prog 155 #[U x, .int .i64 12] w fun e w' => e = .returned (U (rr x 12)) ∧ w.drew = w' := turned_any x 12 (by omega) w
theorem turned8 (x : UInt32) (w : World) : Calls Tryd.prog 155 #[U x, .int .i64 8] w fun e w' => e = .returned (U (rr x 8)) ∧ w.drew = w' := turned_any x 8 (by omega) w
theorem turned7 (x : UInt32) (w : World) : Calls Tryd.prog 155 #[U x, .int .i64 7] w fun e w' => e = .returned (U (rr x 7)) ∧ w.drew = w' := turned_any x 7 (by omega) w
set_option maxHeartbeats 400000 in
theorem right16 (x : UInt32) (w : World) :
    Calls Tryd.prog 153 #[U x, .int .i64 16] w fun e w' => e = .returned (U (rr x 16)) ∧ w = w' := by
  have e1 : bits BinOp.and IntKind.u64 (IntKind.u64.wrap (-16)) 31 = 16 := by decide
  go_enter Tryd.func153, Tryd.ntmps153
  go_wp2
  go_ret
  exact ⟨congrArg (fun n => Ending.returned (Value.int IntKind.u32 n)) (rr_int' x 16 (by omega)), rfl⟩
set_option maxHeartbeats 400000 in
theorem left16 (x : UInt32) (w : World) :
    Calls Tryd.prog 153 #[U x, .int .i64 (-16)] w fun e w' => e = .returned (U (rr x 16)) ∧ w = w' := by
  have e1 : bits BinOp.and IntKind.u64 16 31 = 16 := by decide
  go_enter Tryd.func153, Tryd.ntmps153
  go_wp2
  go_ret
  exact ⟨congrArg (fun n => Ending.returned (Value.int IntKind.u32 n)) (rr_int' x 16 (by omega)), rfl⟩
set_option maxHeartbeats 400000 in
theorem right12 (x : UInt32) (w : World) :
    Calls Tryd.prog 153 #[U x, .int .i64 12] w fun e w' => e = .returned (U (rr x 12)) ∧ w = w' := by
  have e1 : bits BinOp.and IntKind.u64 (IntKind.u64.wrap (-12)) 31 = 20 := by decide
  go_enter Tryd.func153, Tryd.ntmps153
  go_wp2
  go_ret
  exact ⟨congrArg (fun n => Ending.returned (Value.int IntKind.u32 n)) (rr_int' x 12 (by omega)), rfl⟩
set_option maxHeartbeats 400000 in
theorem left12 (x : UInt32) (w : World) :
    Calls Tryd.prog 153 #[U x, .int .i64 (-12)] w fun e w' => e = .returned (U (rr x 20)) ∧ w = w' := by
  have e1 : bits BinOp.and IntKind.u64 12 31 = 12 := by decide
  go_enter Tryd.func153, Tryd.ntmps153
  go_wp2
  go_ret
  exact ⟨congrArg (fun n => Ending.returned (Value.int IntKind.u32 n)) (rr_int' x 20 (by omega)), rfl⟩
set_option maxHeartbeats 400000 in
theorem right8 (x : UInt32) (w : World) :
    Calls Tryd.prog 153 #[U x, .int .i64 8] w fun e w' => e = .returned (U (rr x 8)) ∧ w = w' := by
  have e1 : bits BinOp.and IntKind.u64 (IntKind.u64.wrap (-8)) 31 = 24 := by decide
  go_enter Tryd.func153, Tryd.ntmps153
  go_wp2
  go_ret
  exact ⟨congrArg (fun n => Ending.returned (Value.int IntKind.u32 n)) (rr_int' x 8 (by omega)), rfl⟩
set_option maxHeartbeats 400000 in
theorem left8 (x : UInt32) (w : World) :
    Calls Tryd.prog 153 #[U x, .int .i64 (-8)] w fun e w' => e = .returned (U (rr x 24)) ∧ w = w' := by
  have e1 : bits BinOp.and IntKind.u64 8 31 = 8 := by decide
  go_enter Tryd.func153, Tryd.ntmps153
  go_wp2
  go_ret
  exact ⟨congrArg (fun n => Ending.returned (Value.int IntKind.u32 n)) (rr_int' x 24 (by omega)), rfl⟩
set_option maxHeartbeats 400000 in
theorem right7 (x : UInt32) (w : World) :
    Calls Tryd.prog 153 #[U x, .int .i64 7] w fun e w' => e = .returned (U (rr x 7)) ∧ w = w' := by
  have e1 : bits BinOp.and IntKind.u64 (IntKind.u64.wrap (-7)) 31 = 25 := by decide
  go_enter Tryd.func153, Tryd.ntmps153
  go_wp2
  go_ret
  exact ⟨congrArg (fun n => Ending.returned (Value.int IntKind.u32 n)) (rr_int' x 7 (by omega)), rfl⟩
set_option maxHeartbeats 400000 in
theorem left7 (x : UInt32) (w : World) :
    Calls Tryd.prog 153 #[U x, .int .i64 (-7)] w fun e w' => e = .returned (U (rr x 25)) ∧ w = w' := by
  have e1 : bits BinOp.and IntKind.u64 7 31 = 7 := by decide
  go_enter Tryd.func153, Tryd.ntmps153
  go_wp2
  go_ret
  exact ⟨congrArg (fun n => Ending.returned (Value.int IntKind.u32 n)) (rr_int' x 25 (by omega)), rfl⟩

/-- Half of a mixing. -/
def mixA (a b z : UInt32) : UInt32 := a + (b + z)
def mix4 (a b c d x y : UInt32) : List UInt32 :=
  let a1 := a + (b + x); let d1 := rr (d ^^^ a1) 16; let c1 := c + d1; let b1 := rr (b ^^^ c1) 12
  let a2 := a1 + (b1 + y); let d2 := rr (d1 ^^^ a2) 8; let c2 := c1 + d2; let b2 := rr (b1 ^^^ c2) 7
  [a2, b2, c2, d2]

set_option maxHeartbeats 1000000 in
theorem mix_any (a b c d x y : UInt32) (w : World) :
    Calls Tryd.prog 144 #[.agg #[U a, U b, U c, U d], U x, U y] w (Post w (.agg ((mix4 a b c d x y).map U).toArray)) := by
  go_enter Tryd.func144, Tryd.ntmps144
  go_wp2_with (first | (go_at_call 153; ((with_reducible (first | refine (right16 _ _).mono ?_ | refine (right12 _ _).mono ?_ | refine (right8 _ _).mono ?_ | refine (right7 _ _).mono ?_)); rintro e w' ⟨rfl, rfl⟩)) | go_in)
  go_end0
  go_wp2_with (first | (go_at_call 153; ((with_reducible (first | refine (right16 _ _).mono ?_ | refine (right12 _ _).mono ?_ | refine (right8 _ _).mono ?_ | refine (right7 _ _).mono ?_)); rintro e w' ⟨rfl, rfl⟩)) | go_in)
  go_end0
  go_wp2_with (first | (go_at_call 153; ((with_reducible (first | refine (right16 _ _).mono ?_ | refine (right12 _ _).mono ?_ | refine (right8 _ _).mono ?_ | refine (right7 _ _).mono ?_)); rintro e w' ⟨rfl, rfl⟩)) | go_in)
  refine bodyPost_ret (v := .agg ((mix4 a b c d x y).map U).toArray) (by simp [results, Tryd.results144, go_sem, mix4]) rfl (post_mk rfl ?_)
  exact ex_alloc (ex_alloc (ex_refl _) _) _
end Go.Proofs.YtcdocklbpfdmeaaDoor

/- Strings of digits to the base 16: places, one by one; Digit, Order. -/
set_option linter.unusedSimpArgs false
set_option linter.unusedVariables false
set_option maxRecDepth 20000
namespace Go.Proofs.YtcdocklbpfdmeaaDoor
open Go.RowKit

/-- The orders, the fours: place by place. -/
def ordersN : List Nat := [0, 1, 2, 3, 4, 5, 6, 7, 8, 9, 10, 11, 12, 13, 14, 15, 14, 10, 4, 8, 9, 15, 13, 6, 1, 12, 0, 2, 11, 7, 5, 3, 11, 8, 12, 0, 5, 2, 15, 13, 10, 14, 3, 6, 7, 1, 9, 4, 7, 9, 3, 1, 13, 12, 11, 14, 2, 6, 5, 10, 4, 0, 15, 8, 9, 0, 5, 7, 2, 4, 10, 15, 14, 1, 11, 12, 6, 8, 3, 13, 2, 12, 6, 10, 0, 11, 8, 3, 4, 13, 7, 5, 15, 14, 1, 9, 12, 5, 1, 15, 14, 13, 4, 10, 0, 7, 6, 3, 9, 2, 8, 11, 13, 11, 7, 14, 12, 1, 3, 9, 5, 0, 15, 4, 8, 6, 2, 10, 6, 15, 14, 9, 11, 3, 0, 8, 12, 2, 13, 7, 1, 4, 10, 5, 10, 2, 8, 4, 7, 6, 1, 5, 15, 11, 9, 14, 3, 12, 13, 0]
def foursN : List Nat := [0, 4, 8, 12, 1, 5, 9, 13, 2, 6, 10, 14, 3, 7, 11, 15, 0, 5, 10, 15, 1, 6, 11, 12, 2, 7, 8, 13, 3, 4, 9, 14]
def ordersF (i : Nat) : Int := (ordersN.getD i 0 : Nat)
def foursF (i : Nat) : Int := (foursN.getD i 0 : Nat)
theorem ord_lt (i : Nat) : ordersN.getD i 0 < 16 := by
  by_cases h : i < 160
  · exact (by decide : ∀ i : Fin 160, ordersN.getD i 0 < 16) ⟨i, h⟩
  · rw [List.getD_eq_getElem?_getD, List.getElem?_eq_none (by simp [ordersN]; omega)]; decide
theorem four_lt (i : Nat) : foursN.getD i 0 < 16 := by
  by_cases h : i < 32
  · exact (by decide : ∀ i : Fin 32, foursN.getD i 0 < 16) ⟨i, h⟩
  · rw [List.getD_eq_getElem?_getD, List.getElem?_eq_none (by simp [foursN]; omega)]; decide

/-- The digit of a place. -/
def dig (n : Nat) : UInt8 := if n < 10 then UInt8.ofNat (48 + n) else UInt8.ofNat (87 + n)
/-- A text of digits. -/
def strD (n : Nat) (p : Nat → Nat) : ByteArray := ⟨((List.range n).map fun i => dig (p i)).toArray⟩
theorem strD_size (n : Nat) (p : Nat → Nat) : (strD n p).size = n := by simp [strD, ByteArray.size]
theorem strD_at (n : Nat) (p : Nat → Nat) (i : Nat) (h : i < (strD n p).size) : (strD n p)[i] = dig (p i) := by
  have h2 : i < (strD n p).data.size := h
  have : (strD n p).data[i] = dig (p i) := by simp [strD]
  exact this
theorem index_strD {P : Program} {t : TypeId} (hu : P.underlying t = some .string) (n : Nat) (p : Nat → Nat) (i : Int) (w : World) :
    (Instr.index t (.string (strD n p)) (.int .i64 i)).run P w = if 0 ≤ i ∧ i < n then .ok (.int .u8 (bn (dig (p i.toNat)))) w else idxRaw P t (.string (strD n p)) (.int .i64 i) w := by
  split
  · rename_i h
    rw [run_index_string w t (strD n p) .i64 i hu, dif_pos (by rw [strD_size]; exact h)]
    congr 2
    unfold bn
    rw [strD_at]
  · rfl
@[go_sem high] theorem index_strD' (n : Nat) (p : Nat → Nat) (i : Int) (w : World) :
    (Instr.index 9 (.string (strD n p)) (.int .i64 i)).run Tryd.prog w = if 0 ≤ i ∧ i < n then .ok (.int .u8 (bn (dig (p i.toNat)))) w else idxRaw Tryd.prog 9 (.string (strD n p)) (.int .i64 i) w := index_strD Tryd.underlying9 n p i w
theorem digitI_dig (n : Nat) (h : n < 16) : digitI (bn (dig n)) = n := by
  exact (by decide : ∀ n : Fin 16, digitI ((dig n).toNat : Int) = n) ⟨n, h⟩
theorem digit_place (n : Nat) (h : n < 16) (w : World) :
    Calls Tryd.prog 141 #[.int .u8 (bn (dig n))] w fun e w' => e = .returned (I n) ∧ w = w' := by
  have h2 := bn_lt (dig n)
  have := digit_any (bn (dig n)) w h2.1 (by omega)
  rw [digitI_dig n h] at this
  exact this
/-- A row of texts. -/
def rowS (n : Nat) (f : Nat → ByteArray) : Array Value := ((List.range n).map fun i => Value.string (f i)).toArray
theorem rowS_get (n : Nat) (f : Nat → ByteArray) (i : Nat) : (rowS n f)[i]? = if i < n then some (.string (f i)) else none := by
  simp only [rowS, List.getElem?_toArray, List.getElem?_map, List.getElem?_range]
  by_cases h : i < n <;> simp [h]
/-- An index of a row of texts that is written out. -/
theorem index_rowS {P : Program} {t e : TypeId} {n : Nat} (hu : P.underlying t = some (.array n e)) (hd : P.underlying e = some .string) (hi : (P.info? e).map (·.size) = some 1) (f : Nat → ByteArray) (i : Int) (w : World) :
    (Instr.index t (.agg (rowS n f)) (.int .i64 i)).run P w = if 0 ≤ i ∧ i < n then .ok (.string (f i.toNat)) w else idxRaw P t (.agg (rowS n f)) (.int .i64 i) w := by
  rw [index_one hu hd rfl hi]
  split
  · rename_i h
    rw [rowS_get, if_pos (by omega)]
  · rfl
def orderS (i : Nat) : ByteArray := strD 16 fun j => ordersN.getD (i * 16 + j) 0
def fourS (i : Nat) : ByteArray := strD 4 fun j => foursN.getD (i * 4 + j) 0
theorem order_rows : (#[.string ⟨#[48, 49, 50, 51, 52, 53, 54, 55, 56, 57, 97, 98, 99, 100, 101, 102]⟩, .string ⟨#[101, 97, 52, 56, 57, 102, 100, 54, 49, 99, 48, 50, 98, 55, 53, 51]⟩, .string ⟨#[98, 56, 99, 48, 53, 50, 102, 100, 97, 101, 51, 54, 55, 49, 57, 52]⟩, .string ⟨#[55, 57, 51, 49, 100, 99, 98, 101, 50, 54, 53, 97, 52, 48, 102, 56]⟩, .string ⟨#[57, 48, 53, 55, 50, 52, 97, 102, 101, 49, 98, 99, 54, 56, 51, 100]⟩, .string ⟨#[50, 99, 54, 97, 48, 98, 56, 51, 52, 100, 55, 53, 102, 101, 49, 57]⟩, .string ⟨#[99, 53, 49, 102, 101, 100, 52, 97, 48, 55, 54, 51, 57, 50, 56, 98]⟩, .string ⟨#[100, 98, 55, 101, 99, 49, 51, 57, 53, 48, 102, 52, 56, 54, 50, 97]⟩, .string ⟨#[54, 102, 101, 57, 98, 51, 48, 56, 99, 50, 100, 55, 49, 52, 97, 53]⟩, .string ⟨#[97, 50, 56, 52, 55, 54, 49, 53, 102, 98, 57, 101, 51, 99, 100, 48]⟩] : Array Value) = rowS 10 orderS := by kernel_rfl
theorem four_rows : (#[.string ⟨#[48, 52, 56, 99]⟩, .string ⟨#[49, 53, 57, 100]⟩, .string ⟨#[50, 54, 97, 101]⟩, .string ⟨#[51, 55, 98, 102]⟩, .string ⟨#[48, 53, 97, 102]⟩, .string ⟨#[49, 54, 98, 99]⟩, .string ⟨#[50, 55, 56, 100]⟩, .string ⟨#[51, 52, 57, 101]⟩] : Array Value) = rowS 8 fourS := by kernel_rfl
@[go_sem high] theorem order_at (i : Int) (w : World) : (Instr.index 204 (.agg #[.string ⟨#[48, 49, 50, 51, 52, 53, 54, 55, 56, 57, 97, 98, 99, 100, 101, 102]⟩, .string ⟨#[101, 97, 52, 56, 57, 102, 100, 54, 49, 99, 48, 50, 98, 55, 53, 51]⟩, .string ⟨#[98, 56, 99, 48, 53, 50, 102, 100, 97, 101, 51, 54, 55, 49, 57, 52]⟩, .string ⟨#[55, 57, 51, 49, 100, 99, 98, 101, 50, 54, 53, 97, 52, 48, 102, 56]⟩, .string ⟨#[57, 48, 53, 55, 50, 52, 97, 102, 101, 49, 98, 99, 54, 56, 51, 100]⟩, .string ⟨#[50, 99, 54, 97, 48, 98, 56, 51, 52, 100, 55, 53, 102, 101, 49, 57]⟩, .string ⟨#[99, 53, 49, 102, 101, 100, 52, 97, 48, 55, 54, 51, 57, 50, 56, 98]⟩, .string ⟨#[100, 98, 55, 101, 99, 49, 51, 57, 53, 48, 102, 52, 56, 54, 50, 97]⟩, .string ⟨#[54, 102, 101, 57, 98, 51, 48, 56, 99, 50, 100, 55, 49, 52, 97, 53]⟩, .string ⟨#[97, 50, 56, 52, 55, 54, 49, 53, 102, 98, 57, 101, 51, 99, 100, 48]⟩]) (.int .i64 i)).run Tryd.prog w = if 0 ≤ i ∧ i < (10 : Nat) then .ok (.string (orderS i.toNat)) w else idxRaw Tryd.prog 204 (.agg (rowS 10 orderS)) (.int .i64 i) w := by
  rw [order_rows]; exact index_rowS (n := 10) Tryd.underlying204 Tryd.underlying9 (by kernel_rfl) orderS i w
@[go_sem high] theorem four_at (i : Int) (w : World) : (Instr.index 186 (.agg #[.string ⟨#[48, 52, 56, 99]⟩, .string ⟨#[49, 53, 57, 100]⟩, .string ⟨#[50, 54, 97, 101]⟩, .string ⟨#[51, 55, 98, 102]⟩, .string ⟨#[48, 53, 97, 102]⟩, .string ⟨#[49, 54, 98, 99]⟩, .string ⟨#[50, 55, 56, 100]⟩, .string ⟨#[51, 52, 57, 101]⟩]) (.int .i64 i)).run Tryd.prog w = if 0 ≤ i ∧ i < (8 : Nat) then .ok (.string (fourS i.toNat)) w else idxRaw Tryd.prog 186 (.agg (rowS 8 fourS)) (.int .i64 i) w := by
  rw [four_rows]; exact index_rowS (n := 8) Tryd.underlying186 Tryd.underlying9 (by kernel_rfl) fourS i w
set_option maxHeartbeats 400000 in
theorem order_any (n : Nat) (hn : n < 10) (w : World) :
    Calls Tryd.prog 139 #[I n] w fun e w' => e = .returned (.string (orderS n)) ∧ w = w' := by
  have hn' : ((n : Nat) : Int) < 10 := by omega
  go_enter Tryd.func139, Tryd.ntmps139
  go_wp2
  go_ret
  exact ⟨rfl, rfl⟩
end Go.Proofs.YtcdocklbpfdmeaaDoor

/- What a block's numbers become: in plain Lean, and the mixing over rows. -/
set_option linter.unusedSimpArgs false
set_option linter.unusedVariables false
set_option maxRecDepth 20000
namespace Go.Proofs.YtcdocklbpfdmeaaDoor
open Go.RowKit

/-- Four numbers that are mixed, place by place. -/
def mixL (a b c d x y : UInt32) : Nat → UInt32 := fun k => (mix4 a b c d x y).getD k 0
theorem mix_row (a b c d x y : UInt32) : ((mix4 a b c d x y).map U).toArray = rowU 4 (mixL a b c d x y) := rfl
theorem mix_rowed (a b c d x y : UInt32) (w : World) :
    Calls Tryd.prog 144 #[.agg #[U a, U b, U c, U d], U x, U y] w (Post w (.agg (rowU 4 (mixL a b c d x y)))) := mix_any a b c d x y w
/-- The first k of them laid back. -/
def stepK (v : Nat → UInt32) (p : Nat → Nat) (l : Nat → UInt32) : Nat → (Nat → UInt32)
  | 0 => v
  | k + 1 => upd (stepK v p l k) (p k) (l k)
/-- One mixing of sixteen numbers. -/
def step (v : Nat → UInt32) (p : Nat → Nat) (x y : UInt32) : Nat → UInt32 := stepK v p (mixL (v (p 0)) (v (p 1)) (v (p 2)) (v (p 3)) x y) 4
/-- The first i mixings of a round; the first n rounds. -/
def rndI (m : Nat → UInt32) (s : Nat → Nat) (v : Nat → UInt32) : Nat → (Nat → UInt32)
  | 0 => v
  | i + 1 => step (rndI m s v i) (fun k => foursN.getD (i * 4 + k) 0) (m (s (2 * i))) (m (s (2 * i + 1)))
def rndN (m : Nat → UInt32) (v : Nat → UInt32) : Nat → (Nat → UInt32)
  | 0 => v
  | n + 1 => rndI m (fun j => ordersN.getD (n * 16 + j) 0) (rndN m v n) 8
/-- What is mixed first. -/
def v0F (h : Nat → UInt32) (t : UInt64) (last : Bool) : Nat → UInt32 :=
  let v := over (over (fun _ => 0) 0 8 h) 8 8 startF
  let v1 := upd v 12 (v 12 ^^^ t.toUInt32)
  let v2 := upd v1 13 (v1 13 ^^^ (t >>> 32).toUInt32)
  if last then upd v2 14 (~~~ v2 14) else v2
def wordsF (b : Nat → UInt8) : Nat → UInt32 := fun j => leK (shiftF b (4 * j)) 4
def blockF (h : Nat → UInt32) (b : Nat → UInt8) (t : UInt64) (last : Bool) : Nat → UInt32 :=
  let v := rndN (wordsF b) (v0F h t last) 10
  fun i => h i ^^^ (v i ^^^ v (i + 8))

/-- A row of places. -/
def natI (s : Nat → Nat) : Nat → Int := fun j => (s j : Nat)
@[go_sem] theorem natI_at (s : Nat → Nat) (j : Nat) : natI s j = (s j : Nat) := rfl
theorem ordersF_shift (n : Nat) : shiftF ordersF (n * 16) = natI (fun j => ordersN.getD (n * 16 + j) 0) := rfl
theorem foursF_shift (n : Nat) : shiftF foursF (n * 4) = natI (fun j => foursN.getD (n * 4 + j) 0) := rfl

end Go.Proofs.YtcdocklbpfdmeaaDoor

/- A digest, in plain Lean. -/
set_option linter.unusedSimpArgs false
set_option linter.unusedVariables false
set_option maxRecDepth 20000
namespace Go.Proofs.YtcdocklbpfdmeaaDoor
/-- The numbers ahead of the first block; behind k blocks that are not the last. -/
def sumK (f : Nat → UInt8) : Nat → (Nat → UInt32)
  | 0 => upd startF 0 (startF 0 ^^^ 16842784)
  | k + 1 => blockF (sumK f k) (shiftF f (64 * k)) (UInt64.ofNat (64 * k + 64)) false
/-- How many blocks stand ahead of the last. -/
def lastK (n : Nat) : Nat := (n - 1) / 64
def tailF (f : Nat → UInt8) (n k : Nat) : Nat → UInt8 := over (fun _ => 0) 0 (n - 64 * k) (shiftF f (64 * k))
def sumU (f : Nat → UInt8) (n : Nat) : Nat → UInt32 := blockF (sumK f (lastK n)) (tailF f n (lastK n)) (UInt64.ofNat n) true
/-- The bytes of numbers. -/
def byteF (h : Nat → UInt32) : Nat → UInt8 := fun i => (h (i / 4) >>> UInt32.ofNat (8 * (i % 4))).toUInt8
def sumF (f : Nat → UInt8) (n : Nat) : Nat → UInt8 := byteF (sumU f n)
end Go.Proofs.YtcdocklbpfdmeaaDoor

/- A list that only grows, under one digest: roots, paths, proofs, in plain Lean. -/
set_option linter.unusedSimpArgs false
set_option linter.unusedVariables false
namespace Go.Proofs.YtcdocklbpfdmeaaDoor
/-! ### Digests -/
abbrev Dg := Vector UInt8 32
/-- A list of bytes as what stands at a place. -/
def gF (l : List UInt8) : Nat → UInt8 := fun i => l.getD i 0
def ofF (f : Nat → UInt8) : Dg := Vector.ofFn fun i : Fin 32 => f i.val
def dF (d : Dg) : Nat → UInt8 := fun i => d.toArray.getD i 0
def sumD (l : List UInt8) : Dg := ofF (sumF (gF l) l.length)
theorem dF_ofF (f : Nat → UInt8) (i : Nat) (h : i < 32) : dF (ofF f) i = f i := by
  simp [dF, ofF, Array.getD_eq_getD_getElem?, h]
theorem dF_inj {d d' : Dg} (h : ∀ i, i < 32 → dF d i = dF d' i) : d = d' := by
  apply Vector.ext
  intro i hi
  have := h i hi
  simpa [dF, Array.getD_eq_getD_getElem?, hi] using this
def bytesD (d : Dg) : List UInt8 := (List.range 32).map (dF d)
theorem bytesD_len (d : Dg) : (bytesD d).length = 32 := by simp [bytesD]
def zeroD : Dg := ofF fun _ => 0
def leafD (b : List UInt8) : Dg := sumD (0 :: b)
def nodeD (a b : Dg) : Dg := sumD (1 :: (bytesD a ++ bytesD b))
/-! ### Halves -/
def splitN (n : Nat) : Nat := 2 ^ Nat.log2 (n - 1)
theorem split_pos (n : Nat) : 0 < splitN n := Nat.two_pow_pos _
theorem split_lt {n : Nat} (h : 2 ≤ n) : splitN n < n := by
  have := Nat.log2_self_le (n := n - 1) (by omega)
  unfold splitN; omega
theorem split_ge {n : Nat} (h : 2 ≤ n) : n ≤ 2 * splitN n := by
  have := Nat.lt_log2_self (n := n - 1)
  unfold splitN; rw [Nat.pow_succ] at this; omega
theorem split_uniq {n j : Nat} (h1 : 2 ^ j < n) (h2 : n ≤ 2 * 2 ^ j) : splitN n = 2 ^ j := by
  unfold splitN
  congr 1
  rw [Nat.log2_eq_iff (by omega)]
  rw [Nat.pow_succ]; omega
theorem split_same {n m : Nat} (h : 2 ≤ n) (h1 : splitN n < m) (h2 : m ≤ n) : splitN m = splitN n := by
  have := split_ge h
  unfold splitN at h1 this ⊢
  exact split_uniq h1 (by omega)
/-! ### Roots, paths, proofs -/
def rootD (l : List Dg) : Dg :=
  if h : l.length < 2 then l.headD (sumD []) else
    have h1 := split_lt (n := l.length) (by omega)
    have h2 := split_pos l.length
    nodeD (rootD (l.take (splitN l.length))) (rootD (l.drop (splitN l.length)))
termination_by l.length
decreasing_by
  · rw [List.length_take]; omega
  · rw [List.length_drop]; omega
theorem root_nil : rootD [] = sumD [] := by rw [rootD]; simp
theorem root_one (x : Dg) : rootD [x] = x := by rw [rootD]; simp
theorem root_two {l : List Dg} (h : 2 ≤ l.length) : rootD l = nodeD (rootD (l.take (splitN l.length))) (rootD (l.drop (splitN l.length))) := by
  rw [rootD, dif_neg (by omega)]
def pathD (l : List Dg) (i : Nat) : List Dg :=
  if h : l.length < 2 then [] else
    have h1 := split_lt (n := l.length) (by omega)
    have h2 := split_pos l.length
    if i < splitN l.length then pathD (l.take (splitN l.length)) i ++ [rootD (l.drop (splitN l.length))]
    else pathD (l.drop (splitN l.length)) (i - splitN l.length) ++ [rootD (l.take (splitN l.length))]
termination_by l.length
decreasing_by
  · rw [List.length_take]; omega
  · rw [List.length_drop]; omega
theorem path_one {l : List Dg} (h : l.length < 2) (i : Nat) : pathD l i = [] := by rw [pathD, dif_pos h]
theorem path_lo {l : List Dg} (h : 2 ≤ l.length) {i : Nat} (hi : i < splitN l.length) : pathD l i = pathD (l.take (splitN l.length)) i ++ [rootD (l.drop (splitN l.length))] := by
  rw [pathD, dif_neg (by omega), if_pos hi]
theorem path_hi {l : List Dg} (h : 2 ≤ l.length) {i : Nat} (hi : ¬ i < splitN l.length) : pathD l i = pathD (l.drop (splitN l.length)) (i - splitN l.length) ++ [rootD (l.take (splitN l.length))] := by
  rw [pathD, dif_neg (by omega), if_neg hi]
def proofD (l : List Dg) (m : Nat) (known : Bool) : List Dg :=
  if h : l.length ≤ m ∨ l.length < 2 then (if known then [] else [rootD l]) else
    have h1 := split_lt (n := l.length) (by omega)
    have h2 := split_pos l.length
    if m ≤ splitN l.length then proofD (l.take (splitN l.length)) m known ++ [rootD (l.drop (splitN l.length))]
    else proofD (l.drop (splitN l.length)) (m - splitN l.length) false ++ [rootD (l.take (splitN l.length))]
termination_by l.length
decreasing_by
  · rw [List.length_take]; omega
  · rw [List.length_drop]; omega
theorem proof_all (l : List Dg) (known : Bool) : proofD l l.length known = if known then [] else [rootD l] := by rw [proofD, dif_pos (by omega)]
theorem proof_lo {l : List Dg} {m : Nat} (h1 : 1 ≤ m) (h : m < l.length) (hm : m ≤ splitN l.length) (known : Bool) : proofD l m known = proofD (l.take (splitN l.length)) m known ++ [rootD (l.drop (splitN l.length))] := by
  rw [proofD, dif_neg (by omega), if_pos hm]
theorem proof_hi {l : List Dg} {m : Nat} (h1 : 1 ≤ m) (h : m < l.length) (hm : ¬ m ≤ splitN l.length) (known : Bool) : proofD l m known = proofD (l.drop (splitN l.length)) (m - splitN l.length) false ++ [rootD (l.take (splitN l.length))] := by
  rw [proofD, dif_neg (by omega), if_neg hm]
/-! ### Ways -/
def sidesN (n i : Nat) : List Bool :=
  if h : n < 2 then [] else
    have h1 := split_lt (n := n) (by omega)
    have h2 := split_pos n
    if splitN n ≤ i then true :: sidesN (n - splitN n) (i - splitN n) else false :: sidesN (splitN n) i
termination_by n
theorem sides_one {n : Nat} (h : n < 2) (i : Nat) : sidesN n i = [] := by rw [sidesN, dif_pos h]
theorem sides_hi {n i : Nat} (h : 2 ≤ n) (hi : splitN n ≤ i) : sidesN n i = true :: sidesN (n - splitN n) (i - splitN n) := by rw [sidesN, dif_neg (by omega), if_pos hi]
theorem sides_lo {n i : Nat} (h : 2 ≤ n) (hi : ¬ splitN n ≤ i) : sidesN n i = false :: sidesN (splitN n) i := by rw [sidesN, dif_neg (by omega), if_neg hi]
def stepsN (m n : Nat) : List Bool :=
  if h : n ≤ m ∨ n < 2 then [] else
    have h1 := split_lt (n := n) (by omega)
    have h2 := split_pos n
    if splitN n < m then true :: stepsN (m - splitN n) (n - splitN n) else false :: stepsN m (splitN n)
termination_by n
theorem steps_all {m n : Nat} (h : n ≤ m) : stepsN m n = [] := by rw [stepsN, dif_pos (Or.inl h)]
theorem steps_hi {m n : Nat} (h1 : 1 ≤ m) (h : m < n) (hm : splitN n < m) : stepsN m n = true :: stepsN (m - splitN n) (n - splitN n) := by rw [stepsN, dif_neg (by omega), if_pos hm]
theorem steps_lo {m n : Nat} (h1 : 1 ≤ m) (h : m < n) (hm : ¬ splitN n < m) : stepsN m n = false :: stepsN m (splitN n) := by rw [stepsN, dif_neg (by omega), if_neg hm]
def overD (ahead : Bool) (x other : Dg) : Dg := if ahead then nodeD other x else nodeD x other
def foldO : Dg → List Bool → List Dg → Dg
  | x, b :: bs, p :: ps => foldO (overD b x p) bs ps
  | x, _, _ => x
theorem foldO_snoc : ∀ (bs : List Bool) (ps : List Dg) (x : Dg) (b : Bool) (p : Dg), bs.length = ps.length → foldO x (bs ++ [b]) (ps ++ [p]) = overD b (foldO x bs ps) p
  | [], [], x, b, p, _ => rfl
  | [], _ :: _, _, _, _, h => by simp at h
  | _ :: _, [], _, _, _, h => by simp at h
  | c :: bs, q :: ps, x, b, p, h => by
    simp only [List.cons_append, foldO]
    exact foldO_snoc bs ps _ b p (by simpa using h)
def climbD (n i : Nat) (leaf : Dg) (path : List Dg) : Option Dg :=
  if (sidesN n i).length = path.length then some (foldO leaf (sidesN n i).reverse path) else none
theorem climb_nil {n i : Nat} (h : 2 ≤ n) (leaf : Dg) : climbD n i leaf [] = none := by
  unfold climbD
  by_cases hi : splitN n ≤ i
  · rw [sides_hi h hi, if_neg (by simp)]
  · rw [sides_lo h hi, if_neg (by simp)]
theorem climb_one (i : Nat) (leaf : Dg) (path : List Dg) : climbD 1 i leaf path = if path.length = 0 then some leaf else none := by
  unfold climbD
  rw [sides_one (by omega)]
  cases path <;> simp [foldO]
theorem climb_lo {n i : Nat} (h : 2 ≤ n) (hi : ¬ splitN n ≤ i) (leaf last : Dg) (rest : List Dg) : climbD n i leaf (rest ++ [last]) = (climbD (splitN n) i leaf rest).map fun x => nodeD x last := by
  unfold climbD
  rw [sides_lo h hi]
  simp only [List.length_cons, List.length_append, List.length_nil, Nat.zero_add, Nat.add_right_cancel_iff]
  split
  · rename_i he
    rw [List.reverse_cons, foldO_snoc _ _ _ _ _ (by simpa using he)]; rfl
  · rfl
theorem climb_hi {n i : Nat} (h : 2 ≤ n) (hi : splitN n ≤ i) (leaf last : Dg) (rest : List Dg) : climbD n i leaf (rest ++ [last]) = (climbD (n - splitN n) (i - splitN n) leaf rest).map fun x => nodeD last x := by
  unfold climbD
  rw [sides_hi h hi]
  simp only [List.length_cons, List.length_append, List.length_nil, Nat.zero_add, Nat.add_right_cancel_iff]
  split
  · rename_i he
    rw [List.reverse_cons, foldO_snoc _ _ _ _ _ (by simpa using he)]; rfl
  · rfl
/-- **The path proves the leaf.** -/
theorem climb_path (N : Nat) : ∀ (l : List Dg) (i : Nat) (leaf : Dg) (hN : l.length = N) (hi : l[i]? = some leaf), climbD l.length i leaf (pathD l i) = some (rootD l) := by
  induction N using Nat.strongRecOn with
  | ind N ih =>
    intro l i leaf hN hi
    have hil : i < l.length := (List.getElem?_eq_some_iff.1 hi).1
    by_cases h2 : 2 ≤ l.length
    · have hlt := split_lt h2
      have hpos := split_pos l.length
      rw [root_two h2]
      by_cases hk : i < splitN l.length
      · rw [path_lo h2 hk, climb_lo h2 (by omega)]
        have hl : (l.take (splitN l.length)).length = splitN l.length := by rw [List.length_take]; omega
        have := ih _ (by omega) (l.take (splitN l.length)) i leaf rfl (by rw [List.getElem?_take, if_pos hk, hi])
        rw [hl] at this
        rw [this]; rfl
      · rw [path_hi h2 hk, climb_hi h2 (by omega)]
        have hl : (l.drop (splitN l.length)).length = l.length - splitN l.length := by rw [List.length_drop]
        have := ih _ (by omega) (l.drop (splitN l.length)) (i - splitN l.length) leaf rfl (by rw [List.getElem?_drop, show splitN l.length + (i - splitN l.length) = i by omega, hi])
        rw [hl] at this
        rw [this]; rfl
    · match l, hil, hi, h2 with
      | [x], hil, hi, _ =>
        have : i = 0 := by simpa using hil
        subst this
        obtain rfl : x = leaf := by simpa using hi
        rw [path_one (by simp), root_one]
        exact climb_one _ _ _
      | [], hil, _, _ => simp at hil
      | x :: y :: r, _, _, h2 => exact absurd (by simp) h2
theorem climb_len {n i : Nat} {leaf x : Dg} {p : List Dg} (h : climbD n i leaf p = some x) : (sidesN n i).length = p.length := by
  unfold climbD at h
  split at h
  · assumption
  · cases h
theorem climb_off {n i : Nat} {leaf leaf' x : Dg} {p q : List Dg} (h : climbD n i leaf p = some x) (hq : q.length ≠ p.length) : climbD n i leaf' q = none := by
  have := climb_len h
  unfold climbD
  rw [if_neg (by omega)]
/-! ### Both roots -/
def fold2 : Dg × Dg → List Bool → List Dg → Dg × Dg
  | (a, b), s :: bs, p :: ps => fold2 (if s then nodeD p a else a, overD s b p) bs ps
  | x, _, _ => x
theorem fold2_snoc : ∀ (bs : List Bool) (ps : List Dg) (x : Dg × Dg) (s : Bool) (p : Dg), bs.length = ps.length → fold2 x (bs ++ [s]) (ps ++ [p]) = (if s then nodeD p (fold2 x bs ps).1 else (fold2 x bs ps).1, overD s (fold2 x bs ps).2 p)
  | [], [], x, b, p, _ => rfl
  | [], _ :: _, _, _, _, h => by simp at h
  | _ :: _, [], _, _, _, h => by simp at h
  | c :: bs, q :: ps, (a, b), s, p, h => by
    simp only [List.cons_append, fold2]
    exact fold2_snoc bs ps _ s p (by simpa using h)
def rootsOf (way : List Bool) (old : Dg) (known : Bool) (proof : List Dg) : Option (Dg × Dg) :=
  if (known && !way.contains true) = true then (if way.length = proof.length then some (fold2 (old, old) way.reverse proof) else none)
  else match proof with
    | [] => none
    | x :: ps => if way.length = ps.length then some (fold2 (x, x) way.reverse ps) else none
def rootsD (m n : Nat) (old : Dg) (known : Bool) (proof : List Dg) : Option (Dg × Dg) := rootsOf (stepsN m n) old known proof
theorem rootsOf_snoc (s : Bool) (way : List Bool) (old last : Dg) (known : Bool) (rest : List Dg) :
    rootsOf (s :: way) old known (rest ++ [last]) = (rootsOf way old (known && !s) rest).map fun x => (if s then nodeD last x.1 else x.1, overD s x.2 last) := by
  unfold rootsOf
  have hc : (known && !(s :: way).contains true) = (known && !s && !way.contains true) := by
    cases s <;> cases known <;> simp
  rw [hc]
  split
  · simp only [List.length_cons, List.length_append, List.length_nil, Nat.zero_add, Nat.add_right_cancel_iff]
    split
    · rename_i he
      rw [List.reverse_cons, fold2_snoc _ _ _ _ _ (by simpa using he)]; rfl
    · rfl
  · cases rest with
    | nil => simp
    | cons x ps =>
      simp only [List.cons_append, List.length_cons, List.length_append, List.length_nil, Nat.zero_add, Nat.add_right_cancel_iff]
      split
      · rename_i he
        rw [List.reverse_cons, fold2_snoc _ _ _ _ _ (by simpa using he)]; rfl
      · rfl
theorem rootsOf_nil (s : Bool) (way : List Bool) (old : Dg) (known : Bool) : rootsOf (s :: way) old known [] = none := by
  unfold rootsOf; split <;> simp
theorem roots_all (m : Nat) (old : Dg) (known : Bool) (proof : List Dg) : rootsD m m old known proof = if known then (if proof.length = 0 then some (old, old) else none) else (match proof with | [x] => some (x, x) | _ => none) := by
  unfold rootsD rootsOf
  rw [steps_all (Nat.le_refl _)]
  cases known
  · match proof with
    | [] => rfl
    | [x] => rfl
    | x :: y :: r => simp
  · cases proof <;> simp [fold2]
theorem roots_nil {m n : Nat} (h1 : 1 ≤ m) (h : m < n) (old : Dg) (known : Bool) : rootsD m n old known [] = none := by
  unfold rootsD
  by_cases hm : splitN n < m
  · rw [steps_hi h1 h hm]; exact rootsOf_nil _ _ _ _
  · rw [steps_lo h1 h hm]; exact rootsOf_nil _ _ _ _
theorem roots_hi {m n : Nat} (h1 : 1 ≤ m) (h : m < n) (hm : splitN n < m) (old last : Dg) (known : Bool) (rest : List Dg) :
    rootsD m n old known (rest ++ [last]) = (rootsD (m - splitN n) (n - splitN n) old false rest).map fun x => (nodeD last x.1, nodeD last x.2) := by
  unfold rootsD
  rw [steps_hi h1 h hm, rootsOf_snoc]
  simp [overD]
theorem roots_lo {m n : Nat} (h1 : 1 ≤ m) (h : m < n) (hm : ¬ splitN n < m) (old last : Dg) (known : Bool) (rest : List Dg) :
    rootsD m n old known (rest ++ [last]) = (rootsD m (splitN n) old known rest).map fun x => (x.1, nodeD x.2 last) := by
  unfold rootsD
  rw [steps_lo h1 h hm, rootsOf_snoc]
  simp [overD]
theorem take_take_le {l : List Dg} {k m : Nat} (h : k ≤ m) : (l.take m).take k = l.take k := by rw [List.take_take, Nat.min_eq_left h]
/-- **The proof leads from the old root to the new one.** -/
theorem roots_proof (N : Nat) : ∀ (l : List Dg) (m : Nat) (old : Dg) (known : Bool) (hN : l.length = N) (h1 : 1 ≤ m) (hm : m ≤ l.length) (hk : known = true → old = rootD (l.take m)),
    rootsD m l.length old known (proofD l m known) = some (rootD (l.take m), rootD l) := by
  induction N using Nat.strongRecOn with
  | ind N ih =>
    intro l m old known hN h1 hm hk
    by_cases hml : m = l.length
    · subst hml
      rw [proof_all, roots_all]
      rw [List.take_length] at hk ⊢
      cases known
      · rfl
      · rw [hk rfl]; rfl
    · have hlt : m < l.length := by omega
      have hs := split_lt (n := l.length) (by omega)
      have hp := split_pos l.length
      rw [root_two (l := l) (by omega)]
      by_cases hk2 : m ≤ splitN l.length
      · rw [proof_lo h1 hlt hk2, roots_lo h1 hlt (by omega)]
        have hl : (l.take (splitN l.length)).length = splitN l.length := by rw [List.length_take]; omega
        have := ih _ (by omega) (l.take (splitN l.length)) m old known rfl h1 (by omega) (by rw [take_take_le hk2]; exact hk)
        rw [hl, take_take_le hk2] at this
        rw [this]; rfl
      · rw [proof_hi h1 hlt hk2, roots_hi h1 hlt (by omega)]
        have hl : (l.drop (splitN l.length)).length = l.length - splitN l.length := by rw [List.length_drop]
        have := ih _ (by omega) (l.drop (splitN l.length)) (m - splitN l.length) old false rfl (by omega) (by omega) (by intro h; cases h)
        rw [hl] at this
        rw [this]
        have hl2 : (l.take m).length = m := by rw [List.length_take]; omega
        have hsm := split_same (n := l.length) (by omega) (by omega) hm
        rw [root_two (l := l.take m) (by omega), hl2, hsm, take_take_le (by omega), List.drop_take]
        rfl
theorem rootsOf_off {way : List Bool} {old old' : Dg} {known : Bool} {p : List Dg} {x : Dg × Dg} {z : Dg} (h : rootsOf way old known p = some x) : rootsOf way old' known (p ++ [z]) = none := by
  unfold rootsOf at h ⊢
  split at h
  · rename_i hc
    rw [if_pos hc]
    split at h
    · rw [if_neg (by simp; omega)]
    · cases h
  · rename_i hc
    rw [if_neg hc]
    cases p with
    | nil => cases h
    | cons y ps =>
      simp only at h
      split at h
      · simp only [List.cons_append]
        rw [if_neg (by simp; omega)]
      · cases h
theorem split_bits {n : Nat} (h : n ≤ 40) (h2 : 2 ≤ n) : splitN n &&& (splitN n - 1) = 0 := by
  have : ∀ k : Fin 41, 2 ≤ k.val → splitN k.val &&& (splitN k.val - 1) = 0 := by decide +kernel
  exact this ⟨n, by omega⟩ h2
end Go.Proofs.YtcdocklbpfdmeaaDoor
