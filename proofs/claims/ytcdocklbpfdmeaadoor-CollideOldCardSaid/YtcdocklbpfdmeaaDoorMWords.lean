import Derived.Test.YtcdocklbpfdmeaaDoorMDraw
import Derived.Deep.MidRow
import Derived.Test.YtcdocklbpfdmeaaDoorChecked

/- Words: the numbers of Go as Lean's own words, and how the walk's arithmetic reads over them. No program in sight. -/
set_option linter.unusedSimpArgs false
set_option linter.unusedVariables false
set_option maxRecDepth 20000
namespace Go.Proofs.YtcdocklbpfdmeaaDoor
open Go.RowKit

/-- A word as an integer: behind a name, so that no rule on words takes it apart. -/
def bn (x : UInt8) : Int := x.toNat
def un (x : UInt32) : Int := x.toNat
def ln (x : UInt64) : Int := x.toNat
abbrev B (x : UInt8) : Value := .int .u8 (bn x)
abbrev U (x : UInt32) : Value := .int .u32 (un x)
abbrev L (x : UInt64) : Value := .int .u64 (ln x)
abbrev I (x : Int) : Value := .int .i64 x

theorem un_lt (x : UInt32) : 0 ≤ un x ∧ un x < 4294967296 := by have := x.toNat_lt; unfold un; omega
theorem bn_lt (x : UInt8) : 0 ≤ bn x ∧ bn x < 256 := by have := x.toNat_lt; unfold bn; omega
theorem ln_lt (x : UInt64) : 0 ≤ ln x ∧ ln x < 18446744073709551616 := by have := x.toNat_lt; unfold ln; omega
theorem un_inj {x y : UInt32} (h : un x = un y) : x = y := by unfold un at h; exact UInt32.toNat_inj.1 (by omega)
theorem bn_inj {x y : UInt8} (h : bn x = bn y) : x = y := by unfold bn at h; exact UInt8.toNat_inj.1 (by omega)
theorem ln_inj {x y : UInt64} (h : ln x = ln y) : x = y := by unfold ln at h; exact UInt64.toNat_inj.1 (by omega)
theorem un_of (n : Int) (h : 0 ≤ n ∧ n < 4294967296) : ∃ x : UInt32, n = un x :=
  ⟨UInt32.ofNat n.toNat, by unfold un; rw [UInt32.toNat_ofNat_of_lt' (by show n.toNat < 4294967296; omega)]; omega⟩
theorem bn_of (n : Int) (h : 0 ≤ n ∧ n < 256) : ∃ x : UInt8, n = bn x :=
  ⟨UInt8.ofNat n.toNat, by unfold bn; rw [UInt8.toNat_ofNat_of_lt' (by show n.toNat < 256; omega)]; omega⟩
theorem ln_of (n : Int) (h : 0 ≤ n ∧ n < 18446744073709551616) : ∃ x : UInt64, n = ln x :=
  ⟨UInt64.ofNat n.toNat, by unfold ln; rw [UInt64.toNat_ofNat_of_lt' (by show n.toNat < 18446744073709551616; omega)]; omega⟩

@[go_sem] theorem un_add (x y : UInt32) : IntKind.u32.wrap (un x + un y) = un (x + y) := by
  unfold un; rw [IntKind.wrap_u32, UInt32.toNat_add]; simp
@[go_sem] theorem un_sub (x y : UInt32) : IntKind.u32.wrap (un x - un y) = un (x - y) := by
  unfold un; rw [IntKind.wrap_u32, UInt32.toNat_sub]
  have := x.toNat_lt; have := y.toNat_lt
  simp; omega
theorem bv32 (x : UInt32) : BitVec.ofInt 32 (x.toNat : Int) = x.toBitVec := by
  apply BitVec.eq_of_toNat_eq
  simp
theorem wrap_u32_nat (n : Nat) (h : n < 4294967296) : IntKind.u32.wrap (n : Int) = n := by
  rw [IntKind.wrap_u32]; omega
@[go_sem] theorem un_xor (x y : UInt32) : bits BinOp.xor IntKind.u32 (un x) (un y) = un (x ^^^ y) := by
  unfold un; simp only [bits]
  rw [show IntKind.u32.bits = 32 from rfl, bv32, bv32, wrap_u32_nat _ (BitVec.isLt _)]; rfl
@[go_sem] theorem un_or (x y : UInt32) : bits BinOp.or IntKind.u32 (un x) (un y) = un (x ||| y) := by
  unfold un; simp only [bits]
  rw [show IntKind.u32.bits = 32 from rfl, bv32, bv32, wrap_u32_nat _ (BitVec.isLt _)]; rfl
@[go_sem] theorem un_and (x y : UInt32) : bits BinOp.and IntKind.u32 (un x) (un y) = un (x &&& y) := by
  unfold un; simp only [bits]
  rw [show IntKind.u32.bits = 32 from rfl, bv32, bv32, wrap_u32_nat _ (BitVec.isLt _)]; rfl
/-- A shift to the left, to the right, by a number that is written out. -/
theorem un_shl (x : UInt32) (k : Nat) (hk : k < 32) : IntKind.u32.wrap (un x * 2 ^ k) = un (x <<< UInt32.ofNat k) := by
  unfold un; rw [IntKind.wrap_u32, UInt32.toNat_shiftLeft]
  have e : (UInt32.ofNat k).toNat % 32 = k := by simp; omega
  rw [e, Nat.shiftLeft_eq, Int.natCast_emod, Int.natCast_mul, Int.natCast_pow]; rfl
theorem un_shr (x : UInt32) (k : Nat) (hk : k < 32) : un x / 2 ^ k = un (x >>> UInt32.ofNat k) := by
  unfold un; rw [UInt32.toNat_shiftRight]
  have e : (UInt32.ofNat k).toNat % 32 = k := by simp; omega
  rw [e, Nat.shiftRight_eq_div_pow, Int.natCast_ediv, Int.natCast_pow]; rfl

@[go_sem] theorem ln_u32 (x : UInt64) : IntKind.u32.wrap (ln x) = un x.toUInt32 := by
  unfold ln un; rw [IntKind.wrap_u32]; simp
@[go_sem] theorem bn_u32 (x : UInt8) : IntKind.u32.wrap (bn x) = un x.toUInt32 := by
  unfold bn un; rw [IntKind.wrap_u32]; have := x.toNat_lt; simp; omega
@[go_sem] theorem ln_shr32 (x : UInt64) : IntKind.u32.wrap (ln x / 2 ^ 32) = un (x >>> 32).toUInt32 := by
  unfold ln un; rw [IntKind.wrap_u32]
  simp [Nat.shiftRight_eq_div_pow]
@[go_sem] theorem ln_shr32n (x : UInt64) : IntKind.u32.wrap (ln x / 4294967296) = un (x >>> 32).toUInt32 := ln_shr32 x
@[go_sem] theorem un_not (x : UInt32) : bits BinOp.xor IntKind.u32 4294967295 (un x) = un (~~~x) := by
  have h := un_xor 4294967295 x
  rw [show (4294967295 : UInt32) ^^^ x = ~~~x by apply UInt32.toBitVec_inj.1; rw [UInt32.toBitVec_xor, UInt32.toBitVec_not]; exact BitVec.allOnes_xor] at h
  exact h
@[go_sem] theorem un_notm (x : UInt32) : bits BinOp.xor IntKind.u32 IntKind.u32.max (un x) = un (~~~x) := un_not x
theorem un_mul8 (x : UInt32) : IntKind.u32.wrap (un x * 256) = un (x <<< 8) := un_shl x 8 (by omega)
theorem un_mul16 (x : UInt32) : IntKind.u32.wrap (un x * 65536) = un (x <<< 16) := un_shl x 16 (by omega)
theorem un_mul24 (x : UInt32) : IntKind.u32.wrap (un x * 16777216) = un (x <<< 24) := un_shl x 24 (by omega)
@[go_sem] theorem ln_mod32 (x : UInt64) : IntKind.u32.wrap (ln x % 4294967296) = un x.toUInt32 := by
  rw [← ln_u32 x, IntKind.wrap_u32, IntKind.wrap_u32, Int.emod_emod]
@[go_sem] theorem un_notr (x : UInt32) : bits BinOp.xor IntKind.u32 (un x) 4294967295 = un (~~~x) := by
  have h := un_xor x 4294967295
  rw [show x ^^^ (4294967295 : UInt32) = ~~~x by apply UInt32.toBitVec_inj.1; rw [UInt32.toBitVec_xor, UInt32.toBitVec_not]; exact BitVec.xor_allOnes] at h
  exact h
@[go_sem] theorem ln_tmod (x : UInt64) : (ln x).tmod 4294967296 = ln x % 4294967296 := Int.tmod_eq_emod_of_nonneg (ln_lt x).1
@[go_sem] theorem ln_tdiv (x : UInt64) : (ln x).tdiv 4294967296 = ln x / 4294967296 := Int.tdiv_eq_ediv_of_nonneg (ln_lt x).1
@[go_sem] theorem ln_div64 (x : UInt64) : IntKind.u64.wrap (ln x / 4294967296) = ln x / 4294967296 := by
  have := ln_lt x
  rw [IntKind.wrap_u64]; omega
@[go_sem] theorem ln_mod64 (x : UInt64) : IntKind.u64.wrap (ln x % 4294967296) = ln x % 4294967296 := by
  have := ln_lt x
  rw [IntKind.wrap_u64]; omega
theorem un_byte (x : UInt32) : un x % 256 = bn x.toUInt8 := by
  unfold un bn; simp
@[go_sem] theorem i64_lit (n : Int) (h1 : -9223372036854775808 ≤ n) (h2 : n ≤ 9223372036854775807) : IntKind.i64.wrap n = n := IntWalk.i64_in n ⟨h1, h2⟩

end Go.Proofs.YtcdocklbpfdmeaaDoor

/- Rows of cells: whole arrays that are read, laid and held against one another; functional rows of words. Over whatever program. -/
set_option linter.unusedSimpArgs false
set_option linter.unusedVariables false
set_option maxRecDepth 20000
namespace Go.Proofs.YtcdocklbpfdmeaaDoor
open Go.RowKit

/-! ### Functional rows -/
def upd {α : Type} (f : Nat → α) (i : Nat) (x : α) : Nat → α := fun j => if j = i then x else f j
def rowU (n : Nat) (f : Nat → UInt32) : Array Value := ((List.range n).map fun i => U (f i)).toArray
def rowB (n : Nat) (f : Nat → UInt8) : Array Value := ((List.range n).map fun i => B (f i)).toArray
def rowI (n : Nat) (f : Nat → Int) : Array Value := ((List.range n).map fun i => I (f i)).toArray
@[go_sem, simp] theorem rowU_size (n : Nat) (f : Nat → UInt32) : (rowU n f).size = n := by simp [rowU]
@[go_sem, simp] theorem rowB_size (n : Nat) (f : Nat → UInt8) : (rowB n f).size = n := by simp [rowB]
@[go_sem, simp] theorem rowI_size (n : Nat) (f : Nat → Int) : (rowI n f).size = n := by simp [rowI]
@[go_sem] theorem rowU_get (n : Nat) (f : Nat → UInt32) (i : Nat) : (rowU n f)[i]? = if i < n then some (U (f i)) else none := by
  simp only [rowU, List.getElem?_toArray, List.getElem?_map, List.getElem?_range]
  by_cases h : i < n <;> simp [h]
@[go_sem] theorem rowB_get (n : Nat) (f : Nat → UInt8) (i : Nat) : (rowB n f)[i]? = if i < n then some (B (f i)) else none := by
  simp only [rowB, List.getElem?_toArray, List.getElem?_map, List.getElem?_range]
  by_cases h : i < n <;> simp [h]
@[go_sem] theorem rowI_get (n : Nat) (f : Nat → Int) (i : Nat) : (rowI n f)[i]? = if i < n then some (I (f i)) else none := by
  simp only [rowI, List.getElem?_toArray, List.getElem?_map, List.getElem?_range]
  by_cases h : i < n <;> simp [h]
@[go_sem, simp] theorem rowU_at (n : Nat) (f : Nat → UInt32) (i : Nat) (h : i < (rowU n f).size) : (rowU n f)[i] = U (f i) := by
  have := rowU_get n f i
  rw [Array.getElem?_eq_getElem h, if_pos (by simpa using h)] at this
  exact Option.some.inj this
@[go_sem, simp] theorem rowB_at (n : Nat) (f : Nat → UInt8) (i : Nat) (h : i < (rowB n f).size) : (rowB n f)[i] = B (f i) := by
  have := rowB_get n f i
  rw [Array.getElem?_eq_getElem h, if_pos (by simpa using h)] at this
  exact Option.some.inj this
@[go_sem, simp] theorem rowI_at (n : Nat) (f : Nat → Int) (i : Nat) (h : i < (rowI n f).size) : (rowI n f)[i] = I (f i) := by
  have := rowI_get n f i
  rw [Array.getElem?_eq_getElem h, if_pos (by simpa using h)] at this
  exact Option.some.inj this
theorem arr_ext {xs ys : Array Value} (h : ∀ i : Nat, xs[i]? = ys[i]?) : xs = ys := Array.ext_getElem? h
@[go_sem] theorem rowU_set (n : Nat) (f : Nat → UInt32) (i : Nat) (x : UInt32) : (rowU n f).setIfInBounds i (.int .u32 (un x)) = rowU n (upd f i x) := by
  apply arr_ext; intro j
  rw [Array.getElem?_setIfInBounds, rowU_get, rowU_get]
  simp only [rowU_size, upd]
  by_cases hij : i = j
  · subst hij; simp
  · simp [hij, Ne.symm hij]
@[go_sem] theorem rowB_set (n : Nat) (f : Nat → UInt8) (i : Nat) (x : UInt8) : (rowB n f).setIfInBounds i (.int .u8 (bn x)) = rowB n (upd f i x) := by
  apply arr_ext; intro j
  rw [Array.getElem?_setIfInBounds, rowB_get, rowB_get]
  simp only [rowB_size, upd]
  by_cases hij : i = j
  · subst hij; simp
  · simp [hij, Ne.symm hij]
theorem rowU_congr {n : Nat} {f g : Nat → UInt32} (h : ∀ i, i < n → f i = g i) : rowU n f = rowU n g := by
  apply arr_ext; intro j; rw [rowU_get, rowU_get]; by_cases hj : j < n <;> simp [hj, h]
theorem rowB_congr {n : Nat} {f g : Nat → UInt8} (h : ∀ i, i < n → f i = g i) : rowB n f = rowB n g := by
  apply arr_ext; intro j; rw [rowB_get, rowB_get]; by_cases hj : j < n <;> simp [hj, h]
def shiftF {α : Type} (f : Nat → α) (a : Nat) : Nat → α := fun j => f (a + j)
@[go_sem, simp] theorem shiftF_zero {α : Type} (f : Nat → α) : shiftF f 0 = f := by funext j; simp [shiftF]
@[go_sem] theorem rowU_extract (N : Nat) (f : Nat → UInt32) (a b : Nat) : (rowU N f).extract a b = rowU (min b N - a) (shiftF f a) := by
  apply arr_ext; intro j
  rw [Array.getElem?_extract, rowU_get, rowU_get, rowU_size]
  by_cases hj : j < min b N - a
  · simp [hj, show a + j < N by omega, shiftF]
  · simp [hj]
@[go_sem] theorem rowB_extract (N : Nat) (f : Nat → UInt8) (a b : Nat) : (rowB N f).extract a b = rowB (min b N - a) (shiftF f a) := by
  apply arr_ext; intro j
  rw [Array.getElem?_extract, rowB_get, rowB_get, rowB_size]
  by_cases hj : j < min b N - a
  · simp [hj, show a + j < N by omega, shiftF]
  · simp [hj]
@[go_sem] theorem rowI_extract (N : Nat) (f : Nat → Int) (a b : Nat) : (rowI N f).extract a b = rowI (min b N - a) (shiftF f a) := by
  apply arr_ext; intro j
  rw [Array.getElem?_extract, rowI_get, rowI_get, rowI_size]
  by_cases hj : j < min b N - a
  · simp [hj, show a + j < N by omega, shiftF]
  · simp [hj]
theorem zerosU4 : (#[.int .u32 0, .int .u32 0, .int .u32 0, .int .u32 0] : Array Value) = rowU 4 (fun _ => 0) := rfl
@[go_sem] theorem alloc_zerosU4 (w : World) (t : TypeId) : w.alloc (.cells #[.int .u32 0, .int .u32 0, .int .u32 0, .int .u32 0] t) = w.alloc (.cells (rowU 4 (fun _ => 0)) t) := rfl
theorem zerosU8 : (#[.int .u32 0, .int .u32 0, .int .u32 0, .int .u32 0, .int .u32 0, .int .u32 0, .int .u32 0, .int .u32 0] : Array Value) = rowU 8 (fun _ => 0) := rfl
@[go_sem] theorem alloc_zerosU8 (w : World) (t : TypeId) : w.alloc (.cells #[.int .u32 0, .int .u32 0, .int .u32 0, .int .u32 0, .int .u32 0, .int .u32 0, .int .u32 0, .int .u32 0] t) = w.alloc (.cells (rowU 8 (fun _ => 0)) t) := rfl
theorem zerosU16 : (#[.int .u32 0, .int .u32 0, .int .u32 0, .int .u32 0, .int .u32 0, .int .u32 0, .int .u32 0, .int .u32 0, .int .u32 0, .int .u32 0, .int .u32 0, .int .u32 0, .int .u32 0, .int .u32 0, .int .u32 0, .int .u32 0] : Array Value) = rowU 16 (fun _ => 0) := rfl
@[go_sem] theorem alloc_zerosU16 (w : World) (t : TypeId) : w.alloc (.cells #[.int .u32 0, .int .u32 0, .int .u32 0, .int .u32 0, .int .u32 0, .int .u32 0, .int .u32 0, .int .u32 0, .int .u32 0, .int .u32 0, .int .u32 0, .int .u32 0, .int .u32 0, .int .u32 0, .int .u32 0, .int .u32 0] t) = w.alloc (.cells (rowU 16 (fun _ => 0)) t) := rfl
theorem zerosB32 : (#[.int .u8 0, .int .u8 0, .int .u8 0, .int .u8 0, .int .u8 0, .int .u8 0, .int .u8 0, .int .u8 0, .int .u8 0, .int .u8 0, .int .u8 0, .int .u8 0, .int .u8 0, .int .u8 0, .int .u8 0, .int .u8 0, .int .u8 0, .int .u8 0, .int .u8 0, .int .u8 0, .int .u8 0, .int .u8 0, .int .u8 0, .int .u8 0, .int .u8 0, .int .u8 0, .int .u8 0, .int .u8 0, .int .u8 0, .int .u8 0, .int .u8 0, .int .u8 0] : Array Value) = rowB 32 (fun _ => 0) := rfl
@[go_sem] theorem alloc_zerosB32 (w : World) (t : TypeId) : w.alloc (.cells #[.int .u8 0, .int .u8 0, .int .u8 0, .int .u8 0, .int .u8 0, .int .u8 0, .int .u8 0, .int .u8 0, .int .u8 0, .int .u8 0, .int .u8 0, .int .u8 0, .int .u8 0, .int .u8 0, .int .u8 0, .int .u8 0, .int .u8 0, .int .u8 0, .int .u8 0, .int .u8 0, .int .u8 0, .int .u8 0, .int .u8 0, .int .u8 0, .int .u8 0, .int .u8 0, .int .u8 0, .int .u8 0, .int .u8 0, .int .u8 0, .int .u8 0, .int .u8 0] t) = w.alloc (.cells (rowB 32 (fun _ => 0)) t) := rfl
theorem zerosB64 : (#[.int .u8 0, .int .u8 0, .int .u8 0, .int .u8 0, .int .u8 0, .int .u8 0, .int .u8 0, .int .u8 0, .int .u8 0, .int .u8 0, .int .u8 0, .int .u8 0, .int .u8 0, .int .u8 0, .int .u8 0, .int .u8 0, .int .u8 0, .int .u8 0, .int .u8 0, .int .u8 0, .int .u8 0, .int .u8 0, .int .u8 0, .int .u8 0, .int .u8 0, .int .u8 0, .int .u8 0, .int .u8 0, .int .u8 0, .int .u8 0, .int .u8 0, .int .u8 0, .int .u8 0, .int .u8 0, .int .u8 0, .int .u8 0, .int .u8 0, .int .u8 0, .int .u8 0, .int .u8 0, .int .u8 0, .int .u8 0, .int .u8 0, .int .u8 0, .int .u8 0, .int .u8 0, .int .u8 0, .int .u8 0, .int .u8 0, .int .u8 0, .int .u8 0, .int .u8 0, .int .u8 0, .int .u8 0, .int .u8 0, .int .u8 0, .int .u8 0, .int .u8 0, .int .u8 0, .int .u8 0, .int .u8 0, .int .u8 0, .int .u8 0, .int .u8 0] : Array Value) = rowB 64 (fun _ => 0) := rfl
@[go_sem] theorem alloc_zerosB64 (w : World) (t : TypeId) : w.alloc (.cells #[.int .u8 0, .int .u8 0, .int .u8 0, .int .u8 0, .int .u8 0, .int .u8 0, .int .u8 0, .int .u8 0, .int .u8 0, .int .u8 0, .int .u8 0, .int .u8 0, .int .u8 0, .int .u8 0, .int .u8 0, .int .u8 0, .int .u8 0, .int .u8 0, .int .u8 0, .int .u8 0, .int .u8 0, .int .u8 0, .int .u8 0, .int .u8 0, .int .u8 0, .int .u8 0, .int .u8 0, .int .u8 0, .int .u8 0, .int .u8 0, .int .u8 0, .int .u8 0, .int .u8 0, .int .u8 0, .int .u8 0, .int .u8 0, .int .u8 0, .int .u8 0, .int .u8 0, .int .u8 0, .int .u8 0, .int .u8 0, .int .u8 0, .int .u8 0, .int .u8 0, .int .u8 0, .int .u8 0, .int .u8 0, .int .u8 0, .int .u8 0, .int .u8 0, .int .u8 0, .int .u8 0, .int .u8 0, .int .u8 0, .int .u8 0, .int .u8 0, .int .u8 0, .int .u8 0, .int .u8 0, .int .u8 0, .int .u8 0, .int .u8 0, .int .u8 0] t) = w.alloc (.cells (rowB 64 (fun _ => 0)) t) := rfl
theorem rowU_one (n : Nat) (f : Nat → UInt32) : (rowU n f).all (·.oneCell') = true := by
  rw [Array.all_eq_true_iff_forall_mem]; intro x hx
  simp only [rowU, List.mem_toArray, List.mem_map] at hx
  obtain ⟨i, _, rfl⟩ := hx; rfl
theorem rowB_one (n : Nat) (f : Nat → UInt8) : (rowB n f).all (·.oneCell') = true := by
  rw [Array.all_eq_true_iff_forall_mem]; intro x hx
  simp only [rowB, List.mem_toArray, List.mem_map] at hx
  obtain ⟨i, _, rfl⟩ := hx; rfl
theorem rowI_one (n : Nat) (f : Nat → Int) : (rowI n f).all (·.oneCell') = true := by
  rw [Array.all_eq_true_iff_forall_mem]; intro x hx
  simp only [rowI, List.mem_toArray, List.mem_map] at hx
  obtain ⟨i, _, rfl⟩ := hx; rfl

/-! ### A cell behind a new block, without a premise -/
def cellFar (w : World) (a : Addr) : Option Value := w.cell? a
def frozenFar1 (w : World) (a : Addr) : Bool := w.frozen? a
def setFar (w : World) (a : Addr) (v : Value) : World := w.setCell a v
@[go_sem high] theorem cell_allocI (w : World) (c : Array Value) (t : TypeId) (b i : Nat) : (w.alloc (.cells c t)).cell? ⟨b, i, none⟩ = if b < w.heap.size then w.cell? ⟨b, i, none⟩ else if b = w.heap.size then c[i]? else cellFar (w.alloc (.cells c t)) ⟨b, i, none⟩ := by
  split
  · exact World.cell?_alloc_past _ b i ‹_›
  · split
    · exact World.cell?_alloc_at c t b i ‹_›
    · rfl
@[go_sem high] theorem frozen_allocI (w : World) (c : Array Value) (t : TypeId) (b i : Nat) : (w.alloc (.cells c t)).frozen? ⟨b, i, none⟩ = if b < w.heap.size then w.frozen? ⟨b, i, none⟩ else if b = w.heap.size then false else frozenFar1 (w.alloc (.cells c t)) ⟨b, i, none⟩ := by
  split
  · exact World.frozen?_alloc_past _ b i ‹_›
  · split
    · exact World.frozen?_alloc_at c t b i ‹_›
    · rfl
@[go_sem high] theorem set_allocI (w : World) (c : Array Value) (t : TypeId) (b i : Nat) (v : Value) : (w.alloc (.cells c t)).setCell ⟨b, i, none⟩ v = if b < w.heap.size then (w.setCell ⟨b, i, none⟩ v).alloc (.cells c t) else if b = w.heap.size then w.alloc (.cells (c.setIfInBounds i v) t) else setFar (w.alloc (.cells c t)) ⟨b, i, none⟩ v := by
  split
  · exact World.setCell_alloc_past _ b i v ‹_›
  · split
    · exact World.setCell_alloc_at c t b i v ‹_›
    · rfl

/-! ### A row of cells, whole -/
/-- The cells from a place on, if they are all there. -/
def cellsN (w : World) (b o n : Nat) : Option (Array Value) :=
  if (List.range n).all (fun j => (w.cell? ⟨b, o + j, none⟩).isSome) then some ((List.range n).map fun j => (w.cell? ⟨b, o + j, none⟩).getD undef).toArray else none
theorem cellsN_some {w : World} {b o n : Nat} {cs : Array Value} : cellsN w b o n = some cs ↔ cs.size = n ∧ ∀ j, j < n → w.cell? ⟨b, o + j, none⟩ = cs[j]? := by
  unfold cellsN
  constructor
  · intro h
    split at h
    · rename_i hall
      simp only [Option.some.injEq] at h
      subst h
      refine ⟨by simp, fun j hj => ?_⟩
      have := List.all_eq_true.1 hall j (List.mem_range.2 hj)
      simp only [List.getElem?_toArray, List.getElem?_map, List.getElem?_range hj, Option.map_some]
      obtain ⟨v, hv⟩ := Option.isSome_iff_exists.1 this
      rw [hv]; rfl
    · cases h
  · rintro ⟨hs, h⟩
    have hall : (List.range n).all (fun j => (w.cell? ⟨b, o + j, none⟩).isSome) = true := List.all_eq_true.2 fun j hj => by
      have hj := List.mem_range.1 hj
      rw [h j hj, Array.getElem?_eq_getElem (by omega)]; rfl
    rw [if_pos hall]
    congr 1
    apply arr_ext; intro j
    by_cases hj : j < n
    · simp only [List.getElem?_toArray, List.getElem?_map, List.getElem?_range hj, Option.map_some, h j hj]
      rw [Array.getElem?_eq_getElem (by omega)]; rfl
    · rw [Array.getElem?_eq_none (by simp; omega), Array.getElem?_eq_none (by omega)]
theorem cellsN_congr {w w' : World} {b o n : Nat} (h : ∀ j, j < n → w'.cell? ⟨b, o + j, none⟩ = w.cell? ⟨b, o + j, none⟩) : cellsN w' b o n = cellsN w b o n := by
  cases hc : cellsN w b o n with
  | some cs => obtain ⟨h1, h2⟩ := cellsN_some.1 hc; exact cellsN_some.2 ⟨h1, fun j hj => (h j hj).trans (h2 j hj)⟩
  | none =>
    cases hc' : cellsN w' b o n with
    | none => rfl
    | some cs => obtain ⟨h1, h2⟩ := cellsN_some.1 hc'; rw [cellsN_some.2 ⟨h1, fun j hj => (h j hj).symm.trans (h2 j hj)⟩] at hc; cases hc
def cellsFar (w : World) (b o n : Nat) : Option (Array Value) := cellsN w b o n
/-- The same of a block behind. -/
def blkCells (b : Option Obj) (o n : Nat) : Option (Array Value) := match b with | some (.cells c _ _) => if o + n ≤ c.size then some (c.extract o (o + n)) else none | _ => if n = 0 then some #[] else none
@[go_sem] theorem blkCells_cells (c : Array Value) (t : TypeId) (fr : Nat × Nat) (o n : Nat) : blkCells (some (.cells c t fr)) o n = if o + n ≤ c.size then some (c.extract o (o + n)) else none := rfl
theorem cellsN_wx_raw (w : World) (X : More) (b o n : Nat) : cellsN (wx w X) b o n = if b < w.heap.size then cellsN w b o n else if n = 0 then some #[] else blkCells (X.blocks[b - w.heap.size]?) o n := by
  split
  · exact cellsN_congr fun j _ => wx_cell _ _ _ ‹_›
  · rename_i hb
    split
    · rename_i hn; subst hn; exact cellsN_some.2 ⟨rfl, fun j hj => by omega⟩
    · rename_i hn
      have hc : ∀ j, (wx w X).cell? ⟨b, o + j, none⟩ = blkCell (X.blocks[b - w.heap.size]?) (o + j) none := fun j => by rw [wx_cellI_raw]; simp [hb]
      cases hq : X.blocks[b - w.heap.size]? with
      | none =>
        cases hr : cellsN (wx w X) b o n with
        | none => simp [blkCells, hn]
        | some cs =>
          obtain ⟨h1, h2⟩ := cellsN_some.1 hr
          have := h2 0 (by omega)
          rw [hc, hq, Array.getElem?_eq_getElem (by omega)] at this; cases this
      | some ob =>
        cases ob with
        | cells c t fr =>
          rw [blkCells_cells]
          split
          · rename_i hle
            refine cellsN_some.2 ⟨by simp; omega, fun j hj => ?_⟩
            rw [hc, hq, Array.getElem?_extract, blkCell_cells]
            simp [show j < min (o + n) c.size - o by omega]
          · rename_i hle
            cases hr : cellsN (wx w X) b o n with
            | none => rfl
            | some cs =>
              obtain ⟨h1, h2⟩ := cellsN_some.1 hr
              have := h2 (n - 1) (by omega)
              rw [hc, hq, blkCell_cells, Array.getElem?_eq_none (by omega), Array.getElem?_eq_getElem (by omega)] at this; cases this
        | _ =>
          cases hr : cellsN (wx w X) b o n with
          | none => simp [blkCells, hn]
          | some cs =>
            obtain ⟨h1, h2⟩ := cellsN_some.1 hr
            have := h2 0 (by omega)
            rw [hc, hq, Array.getElem?_eq_getElem (by omega)] at this; cases this
@[go_sem] theorem cellsN_wx (w : World) (X : More) (b o n : Nat) : cellsN (wx w X) b o n = if b < w.heap.size then cellsN w b o n else if n = 0 then some #[] else blkCells (X.at (b - w.heap.size)) o n := cellsN_wx_raw w X b o n
@[go_sem] theorem cellsN_drew (w : World) (b o n : Nat) : cellsN w.drew b o n = cellsN w b o n := rfl
@[go_sem] theorem cellsN_drewN (w : World) (b o n k : Nat) : cellsN (w.drewN k) b o n = cellsN w b o n := rfl
@[go_sem] theorem cellsN_alloc (w : World) (c : Array Value) (t : TypeId) (b o n : Nat) :
    cellsN (w.alloc (.cells c t)) b o n = if b < w.heap.size then cellsN w b o n else if b = w.heap.size then (if o + n ≤ c.size then some (c.extract o (o + n)) else cellsFar (w.alloc (.cells c t)) b o n) else cellsFar (w.alloc (.cells c t)) b o n := by
  split
  · exact cellsN_congr fun j _ => World.cell?_alloc_past _ b (o + j) ‹_›
  · split
    · rename_i hb
      split
      · rename_i h
        refine cellsN_some.2 ⟨by simp; omega, fun j hj => ?_⟩
        rw [World.cell?_alloc_at c t b (o + j) hb, Array.getElem?_extract]
        simp [show j < min (o + n) c.size - o by omega]
      · rfl
    · rfl
@[go_sem] theorem extract_all (c : Array Value) (n : Nat) (h : c.size = n) : c.extract 0 n = c := by subst h; simp
theorem cellsN_cell {w : World} {b o n : Nat} {cs : Array Value} (h : cellsN w b o n = some cs) (j : Nat) (hj : j < n) : w.cell? ⟨b, o + j, none⟩ = cs[j]? := (cellsN_some.1 h).2 j hj

theorem cellsN_range {w : World} {b o n : Nat} {cs : Array Value} (h : cellsN w b o n = some cs) : w.rangeAt b o cs.toList := fun j v hv => by
  obtain ⟨h1, h2⟩ := cellsN_some.1 h
  have hj : j < cs.size := by
    rcases Nat.lt_or_ge j cs.size with h | h
    · exact h
    · rw [Array.getElem?_toList, Array.getElem?_eq_none h] at hv; cases hv
  rw [h2 j (by omega), ← Array.getElem?_toList, hv]

/-! ### A load, a store: what they run to, behind a name of their own, so that a row is read and laid whole -/
section
variable {P : Program}
def loadRun (P : Program) (t : TypeId) (v : Value) (w : World) : Result Next := ((Instr.loadAt t v).run P w).andThen fun x w' => .ok (.value x) w'
def loadRaw (P : Program) (t : TypeId) (v : Value) (w : World) : Result Next := ((Instr.loadAt t v).run P w).andThen fun x w' => .ok (.value x) w'
@[go_sem ↓ high] theorem run_load_pre (ρ : Operand → Value) (d : Option Tmp) (t : TypeId) (x : Operand) (ty : TypeId) (pos : String) (aft : Array Edge) (g : Option (Nat × Bool)) (w : World) :
    Sem.run P (execOp ρ ⟨d, .load t x, ty, pos, aft, g⟩) w = loadRun P t (ρ x) w := by
  simp only [execOp, Sem.run_bind]; rfl
@[go_sem low] theorem loadRun_other (t : TypeId) (v : Value) (w : World) : loadRun P t v w = ((Instr.loadAt t v).run P w).andThen fun x w' => .ok (.value x) w' := rfl
theorem loadRun_row {t : TypeId} {d : TypeDesc} {n : Nat} (hu : P.underlying t = some d) (hd : d.isRow = true) (hi : (P.info? t).map (·.size) = some n) (b o : Nat) (w : World) :
    loadRun P t (.pointer (some ⟨b, o, none⟩)) w = match cellsN w b o n with | some cs => .ok (.value (.agg cs)) w | none => loadRaw P t (.pointer (some ⟨b, o, none⟩)) w := by
  cases hc : cellsN w b o n with
  | none => rfl
  | some cs =>
    have h1 := (cellsN_some.1 hc).1
    have := run_loadAt_mid (P := P) w b o t cs.toList d (cellsN_range hc) hu hd (by rw [hi]; simp [h1])
    unfold loadRun
    rw [this]; rfl

def storeRun (P : Program) (t : TypeId) (v x : Value) (w : World) : Result Next := ((Instr.storeAt t v x).run P w).andThen fun _ w' => .ok .skip w'
def storeRaw (P : Program) (t : TypeId) (v x : Value) (w : World) : Result Next := ((Instr.storeAt t v x).run P w).andThen fun _ w' => .ok .skip w'
@[go_sem ↓ high] theorem run_store_pre (ρ : Operand → Value) (d : Option Tmp) (t : TypeId) (x y : Operand) (ty : TypeId) (pos : String) (aft : Array Edge) (g : Option (Nat × Bool)) (w : World) :
    Sem.run P (execOp ρ ⟨d, .store t x y, ty, pos, aft, g⟩) w = storeRun P t (ρ x) (ρ y) w := by
  simp only [execOp, Sem.run_bind]; rfl
@[go_sem low] theorem storeRun_other (t : TypeId) (v x : Value) (w : World) : storeRun P t v x w = ((Instr.storeAt t v x).run P w).andThen fun _ w' => .ok .skip w' := rfl
end

/-! ### A whole row is laid at once -/
def frozenN (w : World) (b o n : Nat) : Bool := (List.range n).any fun j => w.frozen? ⟨b, o + j, none⟩
theorem frozenN_false {w : World} {b o n : Nat} : frozenN w b o n = false ↔ ∀ j, j < n → w.frozen? ⟨b, o + j, none⟩ = false := by
  unfold frozenN
  simp [List.any_eq_false]
theorem frozenN_congr {w w' : World} {b o n : Nat} (h : ∀ j, j < n → w'.frozen? ⟨b, o + j, none⟩ = w.frozen? ⟨b, o + j, none⟩) : frozenN w' b o n = frozenN w b o n := by
  unfold frozenN
  rw [Bool.eq_iff_iff, List.any_eq_true, List.any_eq_true]
  constructor
  · rintro ⟨j, hj, h1⟩; exact ⟨j, hj, by rw [← h j (List.mem_range.1 hj)]; exact h1⟩
  · rintro ⟨j, hj, h1⟩; exact ⟨j, hj, by rw [h j (List.mem_range.1 hj)]; exact h1⟩
def frozenFar (w : World) (b o n : Nat) : Bool := frozenN w b o n
def blkFrozenN (b : Option Obj) (o n : Nat) : Bool := (List.range n).any fun j => blkFrozen b (o + j)
@[go_sem] theorem blkFrozenN_cells (c : Array Value) (t : TypeId) (o n : Nat) : blkFrozenN (some (.cells c t (0, 0))) o n = false := by
  unfold blkFrozenN; simp [blkFrozen_cells]
theorem frozenN_wx_raw (w : World) (X : More) (b o n : Nat) : frozenN (wx w X) b o n = if b < w.heap.size then frozenN w b o n else blkFrozenN (X.blocks[b - w.heap.size]?) o n := by
  split
  · exact frozenN_congr fun j _ => wx_frozen _ _ _ ‹_›
  · rename_i hb
    unfold frozenN blkFrozenN
    congr 1
    funext j
    rw [wx_frozenI_raw]; simp [hb]
@[go_sem] theorem frozenN_wx (w : World) (X : More) (b o n : Nat) : frozenN (wx w X) b o n = if b < w.heap.size then frozenN w b o n else blkFrozenN (X.at (b - w.heap.size)) o n := frozenN_wx_raw w X b o n
@[go_sem] theorem frozenN_drew (w : World) (b o n : Nat) : frozenN w.drew b o n = frozenN w b o n := rfl
@[go_sem] theorem frozenN_drewN (w : World) (b o n k : Nat) : frozenN (w.drewN k) b o n = frozenN w b o n := rfl
@[go_sem] theorem frozenN_alloc (w : World) (c : Array Value) (t : TypeId) (b o n : Nat) :
    frozenN (w.alloc (.cells c t)) b o n = if b < w.heap.size then frozenN w b o n else if b = w.heap.size then false else frozenFar (w.alloc (.cells c t)) b o n := by
  split
  · exact frozenN_congr fun j _ => World.frozen?_alloc_past _ b (o + j) ‹_›
  · split
    · rename_i hb
      exact frozenN_false.2 fun j hj => World.frozen?_alloc_at c t b (o + j) hb
    · rfl

/-- Each is one cell. -/
def oneCells (vs : Array Value) : Bool := vs.all (·.oneCell')
@[go_sem] theorem oneCells_lit (l : List Value) : oneCells l.toArray = l.all (·.oneCell') := by simp [oneCells]
@[go_sem] theorem one_int (k : IntKind) (n : Int) : (Value.int k n).oneCell' = true := rfl
@[go_sem] theorem one_bool (b : Bool) : (Value.bool b).oneCell' = true := rfl
@[go_sem] theorem one_string (s : ByteArray) : (Value.string s).oneCell' = true := rfl
@[go_sem] theorem one_pointer (p : Option Addr) : (Value.pointer p).oneCell' = true := rfl
@[go_sem] theorem one_slice (p : Option Addr) (n c : Nat) : (Value.slice p n c).oneCell' = true := rfl
@[go_sem] theorem one_func (f : Fn) (x y : Array Value) : (Value.func f x y).oneCell' = true := rfl
@[go_sem] theorem one_nilFunc : Value.nilFunc.oneCell' = true := rfl
@[go_sem] theorem one_iface (t : TypeId) (v : Value) : (Value.iface t v).oneCell' = true := rfl
@[go_sem] theorem one_nilIface : Value.nilIface.oneCell' = true := rfl
theorem storeRun_row {P : Program} {t : TypeId} {n : Nat} (hi : (P.info? t).map (·.size) = some n) (b o : Nat) (vs : Array Value) (w : World) :
    storeRun P t (.pointer (some ⟨b, o, none⟩)) (.agg vs) w = if (vs.size == n && (cellsN w b o n).isSome && !frozenN w b o n && oneCells vs) = true then .ok .skip (w.setCells b o vs.toList) else storeRaw P t (.pointer (some ⟨b, o, none⟩)) (.agg vs) w := by
  split
  · rename_i h
    simp only [Bool.and_eq_true, Bool.not_eq_true', beq_iff_eq] at h
    obtain ⟨⟨⟨h0, h1⟩, h2⟩, h3⟩ := h
    obtain ⟨cs, hcs⟩ := Option.isSome_iff_exists.1 h1
    obtain ⟨h4, h5⟩ := cellsN_some.1 hcs
    have := run_storeAt_mid (P := P) w b o t vs (fun j hj => ⟨by rw [h5 j (by omega), Array.getElem?_eq_getElem (by omega)]; rfl, frozenN_false.1 h2 j (by omega)⟩) (by rw [hi, h0]) h3
    unfold storeRun
    rw [this]; rfl
  · rfl
def setsFar (w : World) (b o : Nat) (vs : List Value) : World := w.setCells b o vs
theorem setCells_size (b : Nat) : ∀ (vs : List Value) (o : Nat) (w : World), (w.setCells b o vs).heap.size = w.heap.size
  | [], _, _ => rfl
  | v :: r, o, w => by unfold World.setCells; rw [setCells_size b r]; simp [World.setCell]
theorem setCells_past (b : Nat) (ob : Obj) : ∀ (vs : List Value) (o : Nat) (w : World), b < w.heap.size → (w.alloc ob).setCells b o vs = (w.setCells b o vs).alloc ob
  | [], _, _, _ => rfl
  | v :: r, o, w, h => by
    unfold World.setCells
    rw [World.setCell_alloc_past ob b o v h, setCells_past b ob r (o + 1) _ (by simpa [World.setCell] using h)]
theorem setCells_new (w : World) (t : TypeId) : ∀ (vs : List Value) (o : Nat) (c : Array Value), (w.alloc (.cells c t)).setCells w.heap.size o vs = w.alloc (.cells (vs.foldl (fun x v => (x.1.setIfInBounds x.2 v, x.2 + 1)) (c, o)).1 t)
  | [], _, _ => rfl
  | v :: r, o, c => by
    unfold World.setCells
    rw [World.setCell_alloc_at c t w.heap.size o v rfl, setCells_new w t r (o + 1)]; rfl
/-- A row with others laid into it. -/
def spliceA (c : Array Value) (o : Nat) (vs : List Value) : Array Value := (vs.foldl (fun x v => (x.1.setIfInBounds x.2 v, x.2 + 1)) (c, o)).1
theorem spliceA_get : ∀ (vs : List Value) (o : Nat) (c : Array Value) (j : Nat), (spliceA c o vs)[j]? = if o ≤ j ∧ j < o + vs.length ∧ j < c.size then vs[j - o]? else c[j]?
  | [], o, c, j => by
    rw [if_neg (by simp; omega)]; rfl
  | v :: r, o, c, j => by
    have ih := spliceA_get r (o + 1) (c.setIfInBounds o v) j
    have e : spliceA c o (v :: r) = spliceA (c.setIfInBounds o v) (o + 1) r := rfl
    rw [e, ih]
    simp only [Array.size_setIfInBounds, Array.getElem?_setIfInBounds, List.length_cons]
    by_cases h1 : o = j
    · subst h1
      by_cases h2 : o < c.size
      · simp [h2, show ¬ (o + 1 ≤ o) by omega]
      · simp [h2, show ¬ (o + 1 ≤ o) by omega]
    · by_cases h2 : o + 1 ≤ j ∧ j < o + 1 + r.length ∧ j < c.size
      · rw [if_pos h2, if_pos ⟨by omega, by omega, h2.2.2⟩, show j - o = (j - (o + 1)) + 1 by omega, List.getElem?_cons_succ]
      · rw [if_neg h2, if_neg h1, if_neg (by omega)]
@[go_sem] theorem spliceA_all (c : Array Value) (vs : List Value) (h : vs.length = c.size) : spliceA c 0 vs = vs.toArray := by
  apply arr_ext; intro j
  rw [spliceA_get]
  by_cases hj : j < c.size
  · simp [hj, h]
  · simp [hj]; omega
def over {α : Type} (f : Nat → α) (o n : Nat) (g : Nat → α) : Nat → α := fun j => if o ≤ j ∧ j < o + n then g (j - o) else f j
@[go_sem] theorem spliceU (N : Nat) (f : Nat → UInt32) (o n : Nat) (g : Nat → UInt32) : spliceA (rowU N f) o (rowU n g).toList = rowU N (over f o n g) := by
  apply arr_ext; intro j
  rw [spliceA_get, rowU_get, Array.getElem?_toList, rowU_get, rowU_get]
  simp only [Array.length_toList, rowU_size, over]
  by_cases hj : j < N
  · by_cases h2 : o ≤ j ∧ j < o + n
    · simp [hj, h2, show j - o < n by omega]
    · simp only [hj, if_true, h2, if_false, and_true]
  · simp [hj]
@[go_sem] theorem spliceB (N : Nat) (f : Nat → UInt8) (o n : Nat) (g : Nat → UInt8) : spliceA (rowB N f) o (rowB n g).toList = rowB N (over f o n g) := by
  apply arr_ext; intro j
  rw [spliceA_get, rowB_get, Array.getElem?_toList, rowB_get, rowB_get]
  simp only [Array.length_toList, rowB_size, over]
  by_cases hj : j < N
  · by_cases h2 : o ≤ j ∧ j < o + n
    · simp [hj, h2, show j - o < n by omega]
    · simp only [hj, if_true, h2, if_false, and_true]
  · simp [hj]
@[go_sem] theorem setCells_alloc (w : World) (c : Array Value) (t : TypeId) (b o : Nat) (vs : List Value) :
    (w.alloc (.cells c t)).setCells b o vs = if b < w.heap.size then (w.setCells b o vs).alloc (.cells c t) else if b = w.heap.size then w.alloc (.cells (spliceA c o vs) t) else setsFar (w.alloc (.cells c t)) b o vs := by
  split
  · exact setCells_past b _ vs o w ‹_›
  · split
    · rename_i hb
      subst hb; exact setCells_new w t vs o c
    · rfl
theorem setCells_wx_lt (b : Nat) (X : More) : ∀ (vs : List Value) (o : Nat) (w : World), b < w.heap.size → (wx w X).setCells b o vs = wx (w.setCells b o vs) X
  | [], _, _, _ => rfl
  | v :: r, o, w, h => by
    unfold World.setCells
    rw [wx_set w X _ v h, setCells_wx_lt b X r (o + 1) _ (by simpa [World.setCell] using h)]
/-- A row laid into a block behind. -/
def More.sets (X : More) (i o : Nat) (vs : List Value) : More := { X with blocks := X.blocks.modify i fun
  | .cells c elem frozen => .cells (spliceA c o vs) elem frozen
  | ob => ob }
@[go_sem] theorem More.sets_len (X : More) (i o : Nat) (vs : List Value) : (X.sets i o vs).blocks.length = X.blocks.length := by simp [More.sets]
theorem More.sets_get_raw (X : More) (i k o : Nat) (vs : List Value) : (X.sets i o vs).blocks[k]? = if i = k then (X.blocks[k]?).map (fun | .cells c elem frozen => .cells (spliceA c o vs) elem frozen | ob => ob) else X.blocks[k]? := by
  simp only [More.sets, List.getElem?_modify]
  split <;> simp
@[go_sem] theorem More.sets_get (X : More) (i k o : Nat) (vs : List Value) : (X.sets i o vs).at k = if i = k then (X.at k).map (fun | .cells c elem frozen => .cells (spliceA c o vs) elem frozen | ob => ob) else X.at k := More.sets_get_raw X i k o vs
theorem setCells_wx_more (w : World) (b : Nat) (hb : ¬ b < w.heap.size) : ∀ (vs : List Value) (o : Nat) (X : More), (wx w X).setCells b o vs = wx w (X.sets (b - w.heap.size) o vs)
  | [], o, X => by
    have : X.sets (b - w.heap.size) o [] = X := by
      unfold More.sets
      have : (X.blocks.modify (b - w.heap.size) fun | .cells c elem frozen => .cells (spliceA c o []) elem frozen | ob => ob) = X.blocks := by
        apply List.ext_getElem?; intro k
        rw [List.getElem?_modify]
        split
        · cases X.blocks[k]? with
          | none => rfl
          | some ob => cases ob <;> rfl
        · cases X.blocks[k]? <;> rfl
      rw [this]
    rw [this]; rfl
  | v :: r, o, X => by
    unfold World.setCells
    rw [wx_set_more w X _ v hb, setCells_wx_more w b hb r (o + 1)]
    congr 1
    simp only [More.sets, More.set, More.mk.injEq, and_true]
    apply List.ext_getElem?; intro k
    simp only [List.getElem?_modify]
    by_cases hk : b - w.heap.size = k
    · subst hk
      cases X.blocks[b - w.heap.size]? with
      | none => simp
      | some ob => cases ob <;> simp [spliceA]
    · simp [hk]
@[go_sem] theorem setCells_wx (w : World) (X : More) (b o : Nat) (vs : List Value) : (wx w X).setCells b o vs = if b < w.heap.size then wx (w.setCells b o vs) X else wx w (X.sets (b - w.heap.size) o vs) := by
  split
  · exact setCells_wx_lt b X vs o w ‹_›
  · exact setCells_wx_more w b ‹_› vs o X
@[go_sem] theorem setCells_drew (b : Nat) : ∀ (vs : List Value) (o : Nat) (w : World), w.drew.setCells b o vs = (w.setCells b o vs).drew
  | [], _, _ => rfl
  | v :: r, o, w => by
    unfold World.setCells
    rw [World.setCell_drew, setCells_drew b r (o + 1)]
@[go_sem] theorem setCells_sizeR (b o : Nat) (vs : List Value) (w : World) : (w.setCells b o vs).heap.size = w.heap.size := setCells_size b vs o w
@[go_sem] theorem rowU_all (n : Nat) (f : Nat → UInt32) : oneCells (rowU n f) = true := rowU_one n f
@[go_sem] theorem rowB_all (n : Nat) (f : Nat → UInt8) : oneCells (rowB n f) = true := rowB_one n f
@[go_sem] theorem rowI_all (n : Nat) (f : Nat → Int) : oneCells (rowI n f) = true := rowI_one n f

/-! ### copy -/
def copyRun (P : Program) (at_ : Array TypeId) (ty : TypeId) (x y : Value) (w : World) : Result Next := ((Builtin.copy_ at_ ty #[x, y]).run P w).andThen fun v w' => .ok (.value v) w'
def copyRaw (P : Program) (at_ : Array TypeId) (ty : TypeId) (x y : Value) (w : World) : Result Next := ((Builtin.copy_ at_ ty #[x, y]).run P w).andThen fun v w' => .ok (.value v) w'
@[go_sem ↓ high] theorem run_copy_pre {P : Program} (ρ : Operand → Value) (d : Option Tmp) (x y : Operand) (at_ : Array TypeId) (ty : TypeId) (pos : String) (aft : Array Edge) (g : Option (Nat × Bool)) (w : World) :
    Sem.run P (execOp ρ ⟨d, .call { callee := .builtin .copy, args := #[x, y], argTypes := at_ }, ty, pos, aft, g⟩) w = copyRun P at_ ty (ρ x) (ρ y) w := by
  simp only [execOp, resolve, invoke, builtin, Sem.run_bind, Sem.run_pure, Result.andThen_ok, List.map_toArray, List.map_cons, List.map_nil, copyRun]
@[go_sem low] theorem copyRun_other {P : Program} (at_ : Array TypeId) (ty : TypeId) (x y : Value) (w : World) : copyRun P at_ ty x y w = ((Builtin.copy_ at_ ty #[x, y]).run P w).andThen fun v w' => .ok (.value v) w' := rfl
theorem copyRun_row {P : Program} {dT sT elem : TypeId} (hu : P.underlying dT = some (.slice elem)) (hs : (P.info? elem).map (·.size) = some 1) (ty : TypeId) (b o b' o' n c n' c' : Nat) (w : World) :
    copyRun P #[dT, sT] ty (.slice (some ⟨b, o, none⟩) n c) (.slice (some ⟨b', o', none⟩) n' c') w =
      match cellsN w b' o' (min n' n) with
      | some cs => if ((cellsN w b o (min n' n)).isSome && !frozenN w b o (min n' n) && oneCells cs) = true then .ok (.value (.int .i64 (min n' n : Nat))) (w.setCells b o cs.toList)
        else copyRaw P #[dT, sT] ty (.slice (some ⟨b, o, none⟩) n c) (.slice (some ⟨b', o', none⟩) n' c') w
      | none => copyRaw P #[dT, sT] ty (.slice (some ⟨b, o, none⟩) n c) (.slice (some ⟨b', o', none⟩) n' c') w := by
  cases hc : cellsN w b' o' (min n' n) with
  | none => rfl
  | some cs =>
    simp only
    split
    · rename_i h
      simp only [Bool.and_eq_true, Bool.not_eq_true'] at h
      obtain ⟨⟨h1, h2⟩, h3⟩ := h
      obtain ⟨ds, hds⟩ := Option.isSome_iff_exists.1 h1
      obtain ⟨h4, h5⟩ := cellsN_some.1 hds
      obtain ⟨h6, h7⟩ := cellsN_some.1 hc
      have := run_copy_cells (P := P) w dT sT ty elem b o n c ⟨b', o', none⟩ n' c' cs.toList hu hs (by rw [Array.length_toList, h6])
        (fun j v hv => by rw [Addr.add_mid]; exact cellsN_range hc j v hv)
        (fun j hj => by rw [Array.length_toList, h6] at hj; rw [h5 j hj, Array.getElem?_eq_getElem (by omega)]; rfl)
        (fun j hj => by rw [Array.length_toList, h6] at hj; exact frozenN_false.1 h2 j hj)
        (fun v hv => (Array.all_eq_true_iff_forall_mem.1 h3) v (by simpa using hv))
      unfold copyRun
      rw [this, Array.length_toList, h6]; rfl
    · rfl

/-! ### A part of an array that is held as a value -/
def idxRaw (P : Program) (t : TypeId) (v x : Value) (w : World) : Result Value := (Instr.index t v x).run P w
theorem index_row {P : Program} {t e : TypeId} {n s : Nat} {d : TypeDesc} (hu : P.underlying t = some (.array n e)) (hd : P.underlying e = some d) (hr : d.isRow = true) (hi : (P.info? e).map (·.size) = some s) (cs : Array Value) (i : Int) (w : World) :
    (Instr.index t (.agg cs) (.int .i64 i)).run P w = if 0 ≤ i ∧ i < n then .ok (.agg (cs.extract (i.toNat * s) (i.toNat * s + s))) w else idxRaw P t (.agg cs) (.int .i64 i) w := by
  by_cases h : 0 ≤ i ∧ i < (n : Int)
  · rw [if_pos h]
    obtain ⟨j, hj, hs⟩ : ∃ j, P.info? e = some j ∧ j.size = s := by
      cases hq : P.info? e with
      | none => rw [hq] at hi; cases hi
      | some j => exact ⟨j, rfl, by rw [hq] at hi; simpa using hi⟩
    have hrow : (isAgg e).run P w = .ok true w := by
      cases d <;> first | (simp [isAgg, run_underlying hd]; done) | cases hr
    simp only [Instr.index, asIntOf, Sem.run_bind, Sem.run_pure, Result.andThen_ok, run_underlying hu, if_pos h, part, run_sizeOf w hj, hrow, Program.cellsOf, hj, hs, Option.map_some, Option.getD_some, if_true]
  · rw [if_neg h]; rfl
theorem index_rowI {P : Program} {t e : TypeId} {n s N : Nat} {d : TypeDesc} (hu : P.underlying t = some (.array n e)) (hd : P.underlying e = some d) (hr : d.isRow = true) (hi : (P.info? e).map (·.size) = some s) (hN : N = n * s) (f : Nat → Int) (i : Int) (w : World) :
    (Instr.index t (.agg (rowI N f)) (.int .i64 i)).run P w = if 0 ≤ i ∧ i < n then .ok (.agg (rowI s (shiftF f (i.toNat * s)))) w else idxRaw P t (.agg (rowI N f)) (.int .i64 i) w := by
  rw [index_row hu hd hr hi]
  split
  · rename_i h
    have h2 : i.toNat * s + s ≤ N := by
      rw [hN, ← Nat.succ_mul]; exact Nat.mul_le_mul_right _ (by omega)
    rw [rowI_extract, Nat.min_eq_left h2, Nat.add_sub_cancel_left]
  · rfl
theorem index_one {P : Program} {t e : TypeId} {n : Nat} {d : TypeDesc} (hu : P.underlying t = some (.array n e)) (hd : P.underlying e = some d) (hr : d.isRow = false) (hi : (P.info? e).map (·.size) = some 1) (cs : Array Value) (i : Int) (w : World) :
    (Instr.index t (.agg cs) (.int .i64 i)).run P w = if 0 ≤ i ∧ i < n then (match cs[i.toNat]? with | some v => .ok v w | none => idxRaw P t (.agg cs) (.int .i64 i) w) else idxRaw P t (.agg cs) (.int .i64 i) w := by
  by_cases h : 0 ≤ i ∧ i < (n : Int)
  · rw [if_pos h]
    cases hc : cs[i.toNat]? with
    | none => rfl
    | some v =>
      obtain ⟨j, hj, hs⟩ : ∃ j, P.info? e = some j ∧ j.size = 1 := by
        cases hq : P.info? e with
        | none => rw [hq] at hi; cases hi
        | some j => exact ⟨j, rfl, by rw [hq] at hi; simpa using hi⟩
      have hrow : (isAgg e).run P w = .ok false w := by
        cases d <;> first | (simp [isAgg, run_underlying hd]; done) | cases hr
      simp only [Instr.index, asIntOf, Sem.run_bind, Sem.run_pure, Result.andThen_ok, run_underlying hu, if_pos h, part, run_sizeOf w hj, hrow, Program.cellsOf, hj, hs, Option.map_some, Option.getD_some, Nat.mul_one, hc, if_false, Bool.false_eq_true]
  · rw [if_neg h]; rfl

/-- A result that lies in memory. -/
theorem ret_row {P : Program} {fn : Func} {p : Tmp} {ty : TypeId} {d : TypeDesc} {n b : Nat} {cs : Array Value} {R : Ending → World → Prop} {a : Act} {w : World} (h : fn.results = #[.cell p ty])
    (hu : P.underlying ty = some d) (hd : d.isRow = true) (hi : (P.info? ty).map (·.size) = some n) (hp : a.tmps.getD p undef = .pointer (some ⟨b, 0, none⟩)) (hc : cellsN w b 0 n = some cs) (hdf : a.defers = [])
    (hR : R (.returned (.agg cs)) w) : bodyPost P fn R .ret a w := by
  have h1 := (cellsN_some.1 hc).1
  have hrun := run_loadVar_mid (P := P) w b 0 ty cs.toList d (cellsN_range hc) hu hd (by rw [hi]; simp [h1])
  have hp' : a.tmps[p]?.getD undef = .pointer (some ⟨b, 0, none⟩) := by simpa using hp
  exact bodyPost_ret (by simp [results, h, hp', asAddr, hrun]) hdf hR
end Go.Proofs.YtcdocklbpfdmeaaDoor

/- The program's rows: how they are read and laid. -/
set_option linter.unusedSimpArgs false
set_option linter.unusedVariables false
namespace Go.Proofs.YtcdocklbpfdmeaaDoor
theorem info_a8u : (Tryd.prog.info? 158).map (·.size) = some 8 := by kernel_rfl
@[go_sem] theorem load_a8u (b o : Nat) (w : World) : loadRun Tryd.prog 158 (.pointer (some ⟨b, o, none⟩)) w = match cellsN w b o 8 with | some cs => .ok (.value (.agg cs)) w | none => loadRaw Tryd.prog 158 (.pointer (some ⟨b, o, none⟩)) w := loadRun_row Tryd.underlying158 rfl info_a8u b o w
@[go_sem] theorem store_a8u (b o : Nat) (vs : Array Value) (w : World) : storeRun Tryd.prog 158 (.pointer (some ⟨b, o, none⟩)) (.agg vs) w = if (vs.size == 8 && (cellsN w b o 8).isSome && !frozenN w b o 8 && oneCells vs) = true then .ok .skip (w.setCells b o vs.toList) else storeRaw Tryd.prog 158 (.pointer (some ⟨b, o, none⟩)) (.agg vs) w := storeRun_row info_a8u b o vs w
theorem info_a64b : (Tryd.prog.info? 160).map (·.size) = some 64 := by kernel_rfl
@[go_sem] theorem load_a64b (b o : Nat) (w : World) : loadRun Tryd.prog 160 (.pointer (some ⟨b, o, none⟩)) w = match cellsN w b o 64 with | some cs => .ok (.value (.agg cs)) w | none => loadRaw Tryd.prog 160 (.pointer (some ⟨b, o, none⟩)) w := loadRun_row Tryd.underlying160 rfl info_a64b b o w
@[go_sem] theorem store_a64b (b o : Nat) (vs : Array Value) (w : World) : storeRun Tryd.prog 160 (.pointer (some ⟨b, o, none⟩)) (.agg vs) w = if (vs.size == 64 && (cellsN w b o 64).isSome && !frozenN w b o 64 && oneCells vs) = true then .ok .skip (w.setCells b o vs.toList) else storeRaw Tryd.prog 160 (.pointer (some ⟨b, o, none⟩)) (.agg vs) w := storeRun_row info_a64b b o vs w
theorem info_a4u : (Tryd.prog.info? 197).map (·.size) = some 4 := by kernel_rfl
@[go_sem] theorem load_a4u (b o : Nat) (w : World) : loadRun Tryd.prog 197 (.pointer (some ⟨b, o, none⟩)) w = match cellsN w b o 4 with | some cs => .ok (.value (.agg cs)) w | none => loadRaw Tryd.prog 197 (.pointer (some ⟨b, o, none⟩)) w := loadRun_row Tryd.underlying197 rfl info_a4u b o w
@[go_sem] theorem store_a4u (b o : Nat) (vs : Array Value) (w : World) : storeRun Tryd.prog 197 (.pointer (some ⟨b, o, none⟩)) (.agg vs) w = if (vs.size == 4 && (cellsN w b o 4).isSome && !frozenN w b o 4 && oneCells vs) = true then .ok .skip (w.setCells b o vs.toList) else storeRaw Tryd.prog 197 (.pointer (some ⟨b, o, none⟩)) (.agg vs) w := storeRun_row info_a4u b o vs w
theorem info_a16u : (Tryd.prog.info? 184).map (·.size) = some 16 := by kernel_rfl
@[go_sem] theorem load_a16u (b o : Nat) (w : World) : loadRun Tryd.prog 184 (.pointer (some ⟨b, o, none⟩)) w = match cellsN w b o 16 with | some cs => .ok (.value (.agg cs)) w | none => loadRaw Tryd.prog 184 (.pointer (some ⟨b, o, none⟩)) w := loadRun_row Tryd.underlying184 rfl info_a16u b o w
@[go_sem] theorem store_a16u (b o : Nat) (vs : Array Value) (w : World) : storeRun Tryd.prog 184 (.pointer (some ⟨b, o, none⟩)) (.agg vs) w = if (vs.size == 16 && (cellsN w b o 16).isSome && !frozenN w b o 16 && oneCells vs) = true then .ok .skip (w.setCells b o vs.toList) else storeRaw Tryd.prog 184 (.pointer (some ⟨b, o, none⟩)) (.agg vs) w := storeRun_row info_a16u b o vs w
theorem info_a16i : (Tryd.prog.info? 193).map (·.size) = some 16 := by kernel_rfl
@[go_sem] theorem load_a16i (b o : Nat) (w : World) : loadRun Tryd.prog 193 (.pointer (some ⟨b, o, none⟩)) w = match cellsN w b o 16 with | some cs => .ok (.value (.agg cs)) w | none => loadRaw Tryd.prog 193 (.pointer (some ⟨b, o, none⟩)) w := loadRun_row Tryd.underlying193 rfl info_a16i b o w
@[go_sem] theorem store_a16i (b o : Nat) (vs : Array Value) (w : World) : storeRun Tryd.prog 193 (.pointer (some ⟨b, o, none⟩)) (.agg vs) w = if (vs.size == 16 && (cellsN w b o 16).isSome && !frozenN w b o 16 && oneCells vs) = true then .ok .skip (w.setCells b o vs.toList) else storeRaw Tryd.prog 193 (.pointer (some ⟨b, o, none⟩)) (.agg vs) w := storeRun_row info_a16i b o vs w
theorem info_a1016 : (Tryd.prog.info? 194).map (·.size) = some 160 := by kernel_rfl
@[go_sem] theorem load_a1016 (b o : Nat) (w : World) : loadRun Tryd.prog 194 (.pointer (some ⟨b, o, none⟩)) w = match cellsN w b o 160 with | some cs => .ok (.value (.agg cs)) w | none => loadRaw Tryd.prog 194 (.pointer (some ⟨b, o, none⟩)) w := loadRun_row Tryd.underlying194 rfl info_a1016 b o w
@[go_sem] theorem store_a1016 (b o : Nat) (vs : Array Value) (w : World) : storeRun Tryd.prog 194 (.pointer (some ⟨b, o, none⟩)) (.agg vs) w = if (vs.size == 160 && (cellsN w b o 160).isSome && !frozenN w b o 160 && oneCells vs) = true then .ok .skip (w.setCells b o vs.toList) else storeRaw Tryd.prog 194 (.pointer (some ⟨b, o, none⟩)) (.agg vs) w := storeRun_row info_a1016 b o vs w
theorem info_a4i : (Tryd.prog.info? 195).map (·.size) = some 4 := by kernel_rfl
@[go_sem] theorem load_a4i (b o : Nat) (w : World) : loadRun Tryd.prog 195 (.pointer (some ⟨b, o, none⟩)) w = match cellsN w b o 4 with | some cs => .ok (.value (.agg cs)) w | none => loadRaw Tryd.prog 195 (.pointer (some ⟨b, o, none⟩)) w := loadRun_row Tryd.underlying195 rfl info_a4i b o w
@[go_sem] theorem store_a4i (b o : Nat) (vs : Array Value) (w : World) : storeRun Tryd.prog 195 (.pointer (some ⟨b, o, none⟩)) (.agg vs) w = if (vs.size == 4 && (cellsN w b o 4).isSome && !frozenN w b o 4 && oneCells vs) = true then .ok .skip (w.setCells b o vs.toList) else storeRaw Tryd.prog 195 (.pointer (some ⟨b, o, none⟩)) (.agg vs) w := storeRun_row info_a4i b o vs w
theorem info_a84 : (Tryd.prog.info? 196).map (·.size) = some 32 := by kernel_rfl
@[go_sem] theorem load_a84 (b o : Nat) (w : World) : loadRun Tryd.prog 196 (.pointer (some ⟨b, o, none⟩)) w = match cellsN w b o 32 with | some cs => .ok (.value (.agg cs)) w | none => loadRaw Tryd.prog 196 (.pointer (some ⟨b, o, none⟩)) w := loadRun_row Tryd.underlying196 rfl info_a84 b o w
@[go_sem] theorem store_a84 (b o : Nat) (vs : Array Value) (w : World) : storeRun Tryd.prog 196 (.pointer (some ⟨b, o, none⟩)) (.agg vs) w = if (vs.size == 32 && (cellsN w b o 32).isSome && !frozenN w b o 32 && oneCells vs) = true then .ok .skip (w.setCells b o vs.toList) else storeRaw Tryd.prog 196 (.pointer (some ⟨b, o, none⟩)) (.agg vs) w := storeRun_row info_a84 b o vs w
theorem info_id : (Tryd.prog.info? 46).map (·.size) = some 32 := by kernel_rfl
@[go_sem] theorem load_id (b o : Nat) (w : World) : loadRun Tryd.prog 46 (.pointer (some ⟨b, o, none⟩)) w = match cellsN w b o 32 with | some cs => .ok (.value (.agg cs)) w | none => loadRaw Tryd.prog 46 (.pointer (some ⟨b, o, none⟩)) w := loadRun_row Tryd.underlying46 rfl info_id b o w
@[go_sem] theorem store_id (b o : Nat) (vs : Array Value) (w : World) : storeRun Tryd.prog 46 (.pointer (some ⟨b, o, none⟩)) (.agg vs) w = if (vs.size == 32 && (cellsN w b o 32).isSome && !frozenN w b o 32 && oneCells vs) = true then .ok .skip (w.setCells b o vs.toList) else storeRaw Tryd.prog 46 (.pointer (some ⟨b, o, none⟩)) (.agg vs) w := storeRun_row info_id b o vs w
@[go_sem] theorem at_a1016 (cs : Array Value) (i : Int) (w : World) : (Instr.index 194 (.agg cs) (.int .i64 i)).run Tryd.prog w = if 0 ≤ i ∧ i < (10 : Nat) then .ok (.agg (cs.extract (i.toNat * 16) (i.toNat * 16 + 16))) w else idxRaw Tryd.prog 194 (.agg cs) (.int .i64 i) w := index_row Tryd.underlying194 Tryd.underlying193 rfl (by kernel_rfl) cs i w
@[go_sem high] theorem atI_a1016 (f : Nat → Int) (i : Int) (w : World) : (Instr.index 194 (.agg (rowI 160 f)) (.int .i64 i)).run Tryd.prog w = if 0 ≤ i ∧ i < (10 : Nat) then .ok (.agg (rowI 16 (shiftF f (i.toNat * 16)))) w else idxRaw Tryd.prog 194 (.agg (rowI 160 f)) (.int .i64 i) w := index_rowI (n := 10) (s := 16) (N := 160) Tryd.underlying194 Tryd.underlying193 rfl (by kernel_rfl) (by decide) f i w
@[go_sem] theorem at_a84 (cs : Array Value) (i : Int) (w : World) : (Instr.index 196 (.agg cs) (.int .i64 i)).run Tryd.prog w = if 0 ≤ i ∧ i < (8 : Nat) then .ok (.agg (cs.extract (i.toNat * 4) (i.toNat * 4 + 4))) w else idxRaw Tryd.prog 196 (.agg cs) (.int .i64 i) w := index_row Tryd.underlying196 Tryd.underlying195 rfl (by kernel_rfl) cs i w
@[go_sem high] theorem atI_a84 (f : Nat → Int) (i : Int) (w : World) : (Instr.index 196 (.agg (rowI 32 f)) (.int .i64 i)).run Tryd.prog w = if 0 ≤ i ∧ i < (8 : Nat) then .ok (.agg (rowI 4 (shiftF f (i.toNat * 4)))) w else idxRaw Tryd.prog 196 (.agg (rowI 32 f)) (.int .i64 i) w := index_rowI (n := 8) (s := 4) (N := 32) Tryd.underlying196 Tryd.underlying195 rfl (by kernel_rfl) (by decide) f i w
@[go_sem] theorem at_a16i (cs : Array Value) (i : Int) (w : World) : (Instr.index 193 (.agg cs) (.int .i64 i)).run Tryd.prog w = if 0 ≤ i ∧ i < (16 : Nat) then (match cs[i.toNat]? with | some v => .ok v w | none => idxRaw Tryd.prog 193 (.agg cs) (.int .i64 i) w) else idxRaw Tryd.prog 193 (.agg cs) (.int .i64 i) w := index_one Tryd.underlying193 Tryd.underlying3 rfl (by kernel_rfl) cs i w
@[go_sem] theorem at_a4i (cs : Array Value) (i : Int) (w : World) : (Instr.index 195 (.agg cs) (.int .i64 i)).run Tryd.prog w = if 0 ≤ i ∧ i < (4 : Nat) then (match cs[i.toNat]? with | some v => .ok v w | none => idxRaw Tryd.prog 195 (.agg cs) (.int .i64 i) w) else idxRaw Tryd.prog 195 (.agg cs) (.int .i64 i) w := index_one Tryd.underlying195 Tryd.underlying3 rfl (by kernel_rfl) cs i w
@[go_sem] theorem at_a8u (cs : Array Value) (i : Int) (w : World) : (Instr.index 158 (.agg cs) (.int .i64 i)).run Tryd.prog w = if 0 ≤ i ∧ i < (8 : Nat) then (match cs[i.toNat]? with | some v => .ok v w | none => idxRaw Tryd.prog 158 (.agg cs) (.int .i64 i) w) else idxRaw Tryd.prog 158 (.agg cs) (.int .i64 i) w := index_one Tryd.underlying158 Tryd.underlying150 rfl (by kernel_rfl) cs i w
@[go_sem] theorem at_id (cs : Array Value) (i : Int) (w : World) : (Instr.index 46 (.agg cs) (.int .i64 i)).run Tryd.prog w = if 0 ≤ i ∧ i < (32 : Nat) then (match cs[i.toNat]? with | some v => .ok v w | none => idxRaw Tryd.prog 46 (.agg cs) (.int .i64 i) w) else idxRaw Tryd.prog 46 (.agg cs) (.int .i64 i) w := index_one Tryd.underlying46 Tryd.underlying5 rfl (by kernel_rfl) cs i w
theorem copyinfo_u32 : (Tryd.prog.info? 150).map (·.size) = some 1 := by kernel_rfl
@[go_sem] theorem copy_u32 (ty sT b o b' o' n c n' c' : Nat) (w : World) : copyRun Tryd.prog #[192, sT] ty (.slice (some ⟨b, o, none⟩) n c) (.slice (some ⟨b', o', none⟩) n' c') w =
      match cellsN w b' o' (min n' n) with
      | some cs => if ((cellsN w b o (min n' n)).isSome && !frozenN w b o (min n' n) && oneCells cs) = true then .ok (.value (.int .i64 (min n' n : Nat))) (w.setCells b o cs.toList)
        else copyRaw Tryd.prog #[192, sT] ty (.slice (some ⟨b, o, none⟩) n c) (.slice (some ⟨b', o', none⟩) n' c') w
      | none => copyRaw Tryd.prog #[192, sT] ty (.slice (some ⟨b, o, none⟩) n c) (.slice (some ⟨b', o', none⟩) n' c') w := copyRun_row Tryd.underlying192 copyinfo_u32 ty b o b' o' n c n' c' w
theorem copyinfo_u8 : (Tryd.prog.info? 5).map (·.size) = some 1 := by kernel_rfl
@[go_sem] theorem copy_u8 (ty sT b o b' o' n c n' c' : Nat) (w : World) : copyRun Tryd.prog #[35, sT] ty (.slice (some ⟨b, o, none⟩) n c) (.slice (some ⟨b', o', none⟩) n' c') w =
      match cellsN w b' o' (min n' n) with
      | some cs => if ((cellsN w b o (min n' n)).isSome && !frozenN w b o (min n' n) && oneCells cs) = true then .ok (.value (.int .i64 (min n' n : Nat))) (w.setCells b o cs.toList)
        else copyRaw Tryd.prog #[35, sT] ty (.slice (some ⟨b, o, none⟩) n c) (.slice (some ⟨b', o', none⟩) n' c') w
      | none => copyRaw Tryd.prog #[35, sT] ty (.slice (some ⟨b, o, none⟩) n c) (.slice (some ⟨b', o', none⟩) n' c') w := copyRun_row Tryd.underlying35 copyinfo_u8 ty b o b' o' n c n' c' w
end Go.Proofs.YtcdocklbpfdmeaaDoor

/- Blake: small functions. -/
set_option linter.unusedSimpArgs false
set_option linter.unusedVariables false
set_option maxRecDepth 20000
namespace Go.Proofs.YtcdocklbpfdmeaaDoor
open Go.RowKit

/-- Four bytes as a number, the lowest first; the first k of them. -/
def leK (f : Nat → UInt8) : Nat → UInt32
  | 0 => 0
  | k + 1 => leK f k ||| (f k).toUInt32 <<< UInt32.ofNat (8 * k)
theorem shl_step (x : UInt32) (k : Nat) (hk : k < 4) : IntKind.u32.wrap (un x * 2 ^ (8 * k)) = un (x <<< UInt32.ofNat (8 * k)) := un_shl x (8 * k) (by omega)

set_option maxHeartbeats 400000 in
theorem little_any (g off len cap : Nat) (f : Nat → UInt8) (w : World) (hl : 4 ≤ len) (hm : len ≤ maxLen) (hc : ∀ j, j < 4 → w.cell? ⟨g, off + j, none⟩ = some (B (f j))) :
    Calls Tryd.prog 143 #[.slice (some ⟨g, off, none⟩) len cap] w fun e w' => e = .returned (U (leK f 4)) ∧ w = w' := by
  unfold maxLen at hm
  go_enter Tryd.func143, Tryd.ntmps143
  go_wp2
  go_loop [2, 4] (fun x i => ∃ k : Nat, k ≤ 4 ∧ i = .int .i64 k ∧ x = U (leK f k)) (fun _ i => 4 - (intOf i).toNat)
  case atStart => exact ⟨0, by omega, rfl, rfl⟩
  case round =>
    obtain ⟨k, hk, rfl, rfl⟩ := hrel
    by_cases hlt : k < 4
    · have h1 := hc k hlt
      go_wp2
      have h3 := shl_step (f k).toUInt32 k hlt
      rw [IntKind.wrap_u32] at h3
      refine ⟨⟨k + 1, by omega, by go_num, ?_⟩, by simp [intOf]; omega⟩
      rw [h3, un_or]; rfl
    · obtain rfl : k = 4 := by omega
      go_wp2
      go_ret
      exact ⟨rfl, rfl⟩

/-- A digit's number. -/
def digitI (n : Int) : Int := if 48 ≤ n ∧ n ≤ 57 then n - 48 else if 97 ≤ n ∧ n ≤ 102 then n - 87 else -1
set_option maxHeartbeats 400000 in
theorem digit_any (n : Int) (w : World) (h0 : 0 ≤ n) (h1 : n ≤ 255) :
    Calls Tryd.prog 141 #[.int .u8 n] w fun e w' => e = .returned (I (digitI n)) ∧ w = w' := by
  unfold digitI
  by_cases a : 48 ≤ n
  · by_cases b : n ≤ 57
    · rw [if_pos ⟨a, b⟩]
      go_enter Tryd.func141, Tryd.ntmps141
      go_wp2
      go_ret
      exact ⟨rfl, rfl⟩
    · rw [if_neg (by omega)]
      by_cases c : 97 ≤ n
      · by_cases d : n ≤ 102
        · rw [if_pos ⟨c, d⟩]
          go_enter Tryd.func141, Tryd.ntmps141
          go_wp2
          go_ret
          exact ⟨congrArg (fun x => Ending.returned (I x)) (by omega), rfl⟩
        · rw [if_neg (by omega)]
          go_enter Tryd.func141, Tryd.ntmps141
          go_wp2
          go_ret
          exact ⟨rfl, rfl⟩
      · rw [if_neg (by omega)]
        go_enter Tryd.func141, Tryd.ntmps141
        go_wp2
        go_ret
        exact ⟨rfl, rfl⟩
  · rw [if_neg (by omega), if_neg (by omega)]
    go_enter Tryd.func141, Tryd.ntmps141
    go_wp2
    go_ret
    exact ⟨rfl, rfl⟩

/-- The first numbers. -/
def startF : Nat → UInt32
  | 0 => 0x6A09E667 | 1 => 0xBB67AE85 | 2 => 0x3C6EF372 | 3 => 0xA54FF53A | 4 => 0x510E527F | 5 => 0x9B05688C | 6 => 0x1F83D9AB | 7 => 0x5BE0CD19 | _ => 0
theorem start_lit : (#[.int .u32 1779033703, .int .u32 3144134277, .int .u32 1013904242, .int .u32 2773480762, .int .u32 1359893119, .int .u32 2600822924, .int .u32 528734635, .int .u32 1541459225] : Array Value) = rowU 8 startF := by rfl

set_option maxHeartbeats 400000 in
theorem refstart_any (w : World) :
    Calls Tryd.prog 111 #[] w (Post w (.agg (rowU 8 startF))) := by
  go_enter Tryd.func111, Tryd.ntmps111
  go_wp2
  exact ret_row Tryd.results111 Tryd.underlying158 rfl info_a8u rfl (by simp [go_sem]; exact start_lit) rfl (post_mk rfl (ex_alloc (ex_refl _) _))

end Go.Proofs.YtcdocklbpfdmeaaDoor
