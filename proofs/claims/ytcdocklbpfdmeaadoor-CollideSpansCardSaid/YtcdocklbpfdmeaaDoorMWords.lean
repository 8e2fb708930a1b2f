import Derived.Test.YtcdocklbpfdmeaaDoorMDraw
import Derived.Test.YtcdocklbpfdmeaaDoorChecked

/- Words: the numbers of Go as Lean's own words, and how the walk's arithmetic reads over them. No program in sight. -/
set_option linter.unusedSimpArgs false
set_option linter.unusedVariables false
set_option maxRecDepth 20000
namespace Go.Proofs.YtcdocklbpfdmeaaDoor
open Go.RowKit

/-- A word as an integer: behind a name, so that no rule on words takes it apart. -/
def bn (x : UInt8) : Int := x.toNat
def un (x : UInt32) : Int := x.toNat
def ln (x : UInt64) : Int := x.toNat
abbrev B (x : UInt8) : Value := .int .u8 (bn x)
abbrev U (x : UInt32) : Value := .int .u32 (un x)
abbrev L (x : UInt64) : Value := .int .u64 (ln x)
abbrev I (x : Int) : Value := .int .i64 x

theorem un_lt (x : UInt32) : 0 ≤ un x ∧ un x < 4294967296 := by have := x.toNat_lt; unfold un; omega
theorem bn_lt (x : UInt8) : 0 ≤ bn x ∧ bn x < 256 := by have := x.toNat_lt; unfold bn; omega
theorem ln_lt (x : UInt64) : 0 ≤ ln x ∧ ln x < 18446744073709551616 := by have := x.toNat_lt; unfold ln; omega
theorem bn_inj {x y : UInt8} (h : bn x = bn y) : x = y := by unfold bn at h; exact UInt8.toNat_inj.1 (by omega)
@[go_sem] theorem un_add (x y : UInt32) : IntKind.u32.wrap (un x + un y) = un (x + y) := by
  unfold un; rw [IntKind.wrap_u32, UInt32.toNat_add]; simp
@[go_sem] theorem un_sub (x y : UInt32) : IntKind.u32.wrap (un x - un y) = un (x - y) := by
  unfold un; rw [IntKind.wrap_u32, UInt32.toNat_sub]
  have := x.toNat_lt; have := y.toNat_lt
  simp; omega
theorem bv32 (x : UInt32) : BitVec.ofInt 32 (x.toNat : Int) = x.toBitVec := by
  apply BitVec.eq_of_toNat_eq
  simp
theorem wrap_u32_nat (n : Nat) (h : n < 4294967296) : IntKind.u32.wrap (n : Int) = n := by
  rw [IntKind.wrap_u32]; omega
@[go_sem] theorem un_xor (x y : UInt32) : bits BinOp.xor IntKind.u32 (un x) (un y) = un (x ^^^ y) := by
  unfold un; simp only [bits]
  rw [show IntKind.u32.bits = 32 from rfl, bv32, bv32, wrap_u32_nat _ (BitVec.isLt _)]; rfl
@[go_sem] theorem un_or (x y : UInt32) : bits BinOp.or IntKind.u32 (un x) (un y) = un (x ||| y) := by
  unfold un; simp only [bits]
  rw [show IntKind.u32.bits = 32 from rfl, bv32, bv32, wrap_u32_nat _ (BitVec.isLt _)]; rfl
@[go_sem] theorem un_and (x y : UInt32) : bits BinOp.and IntKind.u32 (un x) (un y) = un (x &&& y) := by
  unfold un; simp only [bits]
  rw [show IntKind.u32.bits = 32 from rfl, bv32, bv32, wrap_u32_nat _ (BitVec.isLt _)]; rfl
/-- A shift to the left, to the right, by a number that is written out. -/
theorem un_shl (x : UInt32) (k : Nat) (hk : k < 32) : IntKind.u32.wrap (un x * 2 ^ k) = un (x <<< UInt32.ofNat k) := by
  unfold un; rw [IntKind.wrap_u32, UInt32.toNat_shiftLeft]
  have e : (UInt32.ofNat k).toNat % 32 = k := by simp; omega
  rw [e, Nat.shiftLeft_eq, Int.natCast_emod, Int.natCast_mul, Int.natCast_pow]; rfl
theorem un_shr (x : UInt32) (k : Nat) (hk : k < 32) : un x / 2 ^ k = un (x >>> UInt32.ofNat k) := by
  unfold un; rw [UInt32.toNat_shiftRight]
  have e : (UInt32.ofNat k).toNat % 32 = k := by simp; omega
  rw [e, Nat.shiftRight_eq_div_pow, Int.natCast_ediv, Int.natCast_pow]; rfl

@[go_sem] theorem ln_u32 (x : UInt64) : IntKind.u32.wrap (ln x) = un x.toUInt32 := by
  unfold ln un; rw [IntKind.wrap_u32]; simp
@[go_sem] theorem bn_u32 (x : UInt8) : IntKind.u32.wrap (bn x) = un x.toUInt32 := by
  unfold bn un; rw [IntKind.wrap_u32]; have := x.toNat_lt; simp; omega
@[go_sem] theorem ln_shr32 (x : UInt64) : IntKind.u32.wrap (ln x / 2 ^ 32) = un (x >>> 32).toUInt32 := by
  unfold ln un; rw [IntKind.wrap_u32]
  simp [Nat.shiftRight_eq_div_pow]
@[go_sem] theorem ln_shr32n (x : UInt64) : IntKind.u32.wrap (ln x / 4294967296) = un (x >>> 32).toUInt32 := ln_shr32 x
@[go_sem] theorem un_not (x : UInt32) : bits BinOp.xor IntKind.u32 4294967295 (un x) = un (~~~x) := by
  have h := un_xor 4294967295 x
  rw [show (4294967295 : UInt32) ^^^ x = ~~~x by apply UInt32.toBitVec_inj.1; rw [UInt32.toBitVec_xor, UInt32.toBitVec_not]; exact BitVec.allOnes_xor] at h
  exact h
@[go_sem] theorem un_notm (x : UInt32) : bits BinOp.xor IntKind.u32 IntKind.u32.max (un x) = un (~~~x) := un_not x
theorem un_mul8 (x : UInt32) : IntKind.u32.wrap (un x * 256) = un (x <<< 8) := un_shl x 8 (by omega)
theorem un_mul16 (x : UInt32) : IntKind.u32.wrap (un x * 65536) = un (x <<< 16) := un_shl x 16 (by omega)
theorem un_mul24 (x : UInt32) : IntKind.u32.wrap (un x * 16777216) = un (x <<< 24) := un_shl x 24 (by omega)
@[go_sem] theorem ln_mod32 (x : UInt64) : IntKind.u32.wrap (ln x % 4294967296) = un x.toUInt32 := by
  rw [← ln_u32 x, IntKind.wrap_u32, IntKind.wrap_u32, Int.emod_emod]
@[go_sem] theorem un_notr (x : UInt32) : bits BinOp.xor IntKind.u32 (un x) 4294967295 = un (~~~x) := by
  have h := un_xor x 4294967295
  rw [show x ^^^ (4294967295 : UInt32) = ~~~x by apply UInt32.toBitVec_inj.1; rw [UInt32.toBitVec_xor, UInt32.toBitVec_not]; exact BitVec.xor_allOnes] at h
  exact h
@[go_sem] theorem ln_tmod (x : UInt64) : (ln x).tmod 4294967296 = ln x % 4294967296 := Int.tmod_eq_emod_of_nonneg (ln_lt x).1
@[go_sem] theorem ln_tdiv (x : UInt64) : (ln x).tdiv 4294967296 = ln x / 4294967296 := Int.tdiv_eq_ediv_of_nonneg (ln_lt x).1
@[go_sem] theorem ln_div64 (x : UInt64) : IntKind.u64.wrap (ln x / 4294967296) = ln x / 4294967296 := by
  have := ln_lt x
  rw [IntKind.wrap_u64]; omega
@[go_sem] theorem ln_mod64 (x : UInt64) : IntKind.u64.wrap (ln x % 4294967296) = ln x % 4294967296 := by
  have := ln_lt x
  rw [IntKind.wrap_u64]; omega
theorem un_byte (x : UInt32) : un x % 256 = bn x.toUInt8 := by
  unfold un bn; simp
@[go_sem] theorem i64_lit (n : Int) (h1 : -9223372036854775808 ≤ n) (h2 : n ≤ 9223372036854775807) : IntKind.i64.wrap n = n := IntWalk.i64_in n ⟨h1, h2⟩

end Go.Proofs.YtcdocklbpfdmeaaDoor

/- Mix and Unmix of both texts: what each call does. -/
set_option linter.unusedSimpArgs false
set_option linter.unusedVariables false
set_option maxRecDepth 20000
namespace Go.Proofs.YtcdocklbpfdmeaaDoor
open Go.RowKit

/-- x turned right by k. -/
def rr (x : UInt32) (k : Nat) : UInt32 := x >>> UInt32.ofNat k ||| x <<< UInt32.ofNat (32 - k)
theorem rr_int (x : UInt32) (k : Nat) (hk : 0 < k ∧ k < 32) : bits BinOp.or IntKind.u32 (un x / 2 ^ k) (un x * 2 ^ (32 - k) % 4294967296) = un (rr x k) := by
  have h1 := un_shr x k (by omega)
  have h2 := un_shl x (32 - k) (by omega)
  rw [IntKind.wrap_u32] at h2
  rw [h1, h2, un_or]; rfl
theorem rr_int' (x : UInt32) (k : Nat) (hk : 0 < k ∧ k < 32) : bits BinOp.or IntKind.u32 (un x * 2 ^ (32 - k) % 4294967296) (un x / 2 ^ k) = un (rr x k) := by
  have h1 := un_shr x k (by omega)
  have h2 := un_shl x (32 - k) (by omega)
  rw [IntKind.wrap_u32] at h2
  rw [h1, h2, un_or, UInt32.or_comm]; rfl

set_option maxHeartbeats 400000 in
theorem turned_any (x : UInt32) (k : Nat) (hk : 0 < k ∧ k < 32) (w : World) :
    Calls Tryd.prog 155 #[U x, .int .i64 k] w fun e w' => e = .returned (U (rr x k)) ∧ w.drew = w' := by
  go_enter Tryd.func155, Tryd.ntmps155
  go_wp2
  go_region
  go_wp2
  go_ret
  exact ⟨congrArg (fun n => Ending.returned (Value.int IntKind.u32 n)) (rr_int x k hk), rfl⟩

theorem turned16 (x : UInt32) (w : World) : Calls Tryd.prog 155 #[U x, .int .i64 16] w fun e w' => e = .returned (U (rr x 16)) ∧ w.drew = w' := turned_any x 16 (by omega) w
theorem turned12 (x : UInt32) (w : World) : Calls Tryd.prog 155 #[U x, .int .i64 12] w fun e w' => e = .returned (U (rr x 12)) ∧ w.drew = w' := turned_any x 12 (by omega) w
theorem turned8 (x : UInt32) (w : World) : Calls Tryd.prog 155 #[U x, .int .i64 8] w fun e w' => e = .returned (U (rr x 8)) ∧ w.drew = w' := turned_any x 8 (by omega) w
theorem turned7 (x : UInt32) (w : World) : Calls Tryd.prog 155 #[U x, .int .i64 7] w fun e w' => e = .returned (U (rr x 7)) ∧ w.drew = w' := turned_any x 7 (by omega) w
set_option maxHeartbeats 400000 in
theorem right16 (x : UInt32) (w : World) :
    Calls Tryd.prog 153 #[U x, .int .i64 16] w fun e w' => e = .returned (U (rr x 16)) ∧ w = w' := by
  have e1 : bits BinOp.and IntKind.u64 (IntKind.u64.wrap (-16)) 31 = 16 := by decide
  go_enter Tryd.func153, Tryd.ntmps153
  go_wp2
  go_ret
  exact ⟨congrArg (fun n => Ending.returned (Value.int IntKind.u32 n)) (rr_int' x 16 (by omega)), rfl⟩
set_option maxHeartbeats 400000 in
theorem right12 (x : UInt32) (w : World) :
    Calls Tryd.prog 153 #[U x, .int .i64 12] w fun e w' => e = .returned (U (rr x 12)) ∧ w = w' := by
  have e1 : bits BinOp.and IntKind.u64 (IntKind.u64.wrap (-12)) 31 = 20 := by decide
  go_enter Tryd.func153, Tryd.ntmps153
  go_wp2
  go_ret
  exact ⟨congrArg (fun n => Ending.returned (Value.int IntKind.u32 n)) (rr_int' x 12 (by omega)), rfl⟩
set_option maxHeartbeats 400000 in
theorem right8 (x : UInt32) (w : World) :
    Calls Tryd.prog 153 #[U x, .int .i64 8] w fun e w' => e = .returned (U (rr x 8)) ∧ w = w' := by
  have e1 : bits BinOp.and IntKind.u64 (IntKind.u64.wrap (-8)) 31 = 24 := by decide
  go_enter Tryd.func153, Tryd.ntmps153
  go_wp2
  go_ret
  exact ⟨congrArg (fun n => Ending.returned (Value.int IntKind.u32 n)) (rr_int' x 8 (by omega)), rfl⟩
set_option maxHeartbeats 400000 in
theorem right7 (x : UInt32) (w : World) :
    Calls Tryd.prog 153 #[U x, .int .i64 7] w fun e w' => e = .returned (U (rr x 7)) ∧ w = w' := by
  have e1 : bits BinOp.and IntKind.u64 (IntKind.u64.wrap (-7)) 31 = 25 := by decide
  go_enter Tryd.func153, Tryd.ntmps153
  go_wp2
  go_ret
  exact ⟨congrArg (fun n => Ending.returned (Value.int IntKind.u32 n)) (rr_int' x 7 (by omega)), rfl⟩
def mix4 (a b c d x y : UInt32) : List UInt32 :=
  let a1 := a + (b + x); let d1 := rr (d ^^^ a1) 16; let c1 := c + d1; let b1 := rr (b ^^^ c1) 12
  let a2 := a1 + (b1 + y); let d2 := rr (d1 ^^^ a2) 8; let c2 := c1 + d2; let b2 := rr (b1 ^^^ c2) 7
  [a2, b2, c2, d2]

set_option maxHeartbeats 1000000 in
theorem mix_any (a b c d x y : UInt32) (w : World) :
    Calls Tryd.prog 144 #[.agg #[U a, U b, U c, U d], U x, U y] w (Post w (.agg ((mix4 a b c d x y).map U).toArray)) := by
  go_enter Tryd.func144, Tryd.ntmps144
  go_wp2_with (first | (go_at_call 153; ((with_reducible (first | refine (right16 _ _).mono ?_ | refine (right12 _ _).mono ?_ | refine (right8 _ _).mono ?_ | refine (right7 _ _).mono ?_)); rintro e w' ⟨rfl, rfl⟩)) | go_in)
  go_end0
  go_wp2_with (first | (go_at_call 153; ((with_reducible (first | refine (right16 _ _).mono ?_ | refine (right12 _ _).mono ?_ | refine (right8 _ _).mono ?_ | refine (right7 _ _).mono ?_)); rintro e w' ⟨rfl, rfl⟩)) | go_in)
  go_end0
  go_wp2_with (first | (go_at_call 153; ((with_reducible (first | refine (right16 _ _).mono ?_ | refine (right12 _ _).mono ?_ | refine (right8 _ _).mono ?_ | refine (right7 _ _).mono ?_)); rintro e w' ⟨rfl, rfl⟩)) | go_in)
  refine bodyPost_ret (v := .agg ((mix4 a b c d x y).map U).toArray) (by simp [results, Tryd.results144, go_sem, mix4]) rfl (post_mk rfl ?_)
  exact ex_alloc (ex_alloc (ex_refl _) _) _
end Go.Proofs.YtcdocklbpfdmeaaDoor

/- The reference's Mix. -/
set_option linter.unusedSimpArgs false
set_option linter.unusedVariables false
set_option maxRecDepth 20000
namespace Go.Proofs.YtcdocklbpfdmeaaDoor
open Go.RowKit
set_option maxHeartbeats 400000 in
theorem refmix_any (a b c d x y : UInt32) (w : World) :
    Calls Tryd.prog 151 #[.agg #[U a, U b, U c, U d], U x, U y] w (Post w (.agg ((mix4 a b c d x y).map U).toArray)) := by
  go_enter Tryd.func151, Tryd.ntmps151
  go_wp2
  go_region
  go_wp2_with (go_at_call 155; ((with_reducible (first | refine (turned16 _ _).mono ?_ | refine (turned12 _ _).mono ?_ | refine (turned8 _ _).mono ?_ | refine (turned7 _ _).mono ?_)); rintro e w' ⟨rfl, rfl⟩))
  refine bodyPost_ret (v := .agg ((mix4 a b c d x y).map U).toArray) (by simp [results, Tryd.results151, go_sem, mix4, UInt32.add_assoc]) rfl (post_mk rfl ?_)
  repeat (first | exact ex_refl _ | refine ex_drew ?_ | refine ex_alloc ?_ _ | refine ex_wx ?_ _)
end Go.Proofs.YtcdocklbpfdmeaaDoor
