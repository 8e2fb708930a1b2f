import Derived.Test.YtabjamkkhlbajaaDoorMDraw
import Derived.Test.YtabjamkkhlbajaaDoorChecked

/- Words: the numbers of Go as Lean's own words, and how the walk's arithmetic reads over them. No program in sight. -/
set_option linter.unusedSimpArgs false
set_option linter.unusedVariables false
set_option maxRecDepth 20000
namespace Go.Proofs.YtabjamkkhlbajaaDoor
open Go.RowKit

/-- A word as an integer: behind a name, so that no rule on words takes it apart. -/
def bn (x : UInt8) : Int := x.toNat
def un (x : UInt32) : Int := x.toNat
def ln (x : UInt64) : Int := x.toNat
abbrev B (x : UInt8) : Value := .int .u8 (bn x)
abbrev U (x : UInt32) : Value := .int .u32 (un x)
abbrev L (x : UInt64) : Value := .int .u64 (ln x)
abbrev I (x : Int) : Value := .int .i64 x

theorem un_lt (x : UInt32) : 0 ≤ un x ∧ un x < 4294967296 := by have := x.toNat_lt; unfold un; omega
theorem ln_lt (x : UInt64) : 0 ≤ ln x ∧ ln x < 18446744073709551616 := by have := x.toNat_lt; unfold ln; omega
theorem bn_inj {x y : UInt8} (h : bn x = bn y) : x = y := by unfold bn at h; exact UInt8.toNat_inj.1 (by omega)
theorem bn_of (n : Int) (h : 0 ≤ n ∧ n < 256) : ∃ x : UInt8, n = bn x :=
  ⟨UInt8.ofNat n.toNat, by unfold bn; rw [UInt8.toNat_ofNat_of_lt' (by show n.toNat < 256; omega)]; omega⟩
@[go_sem] theorem un_add (x y : UInt32) : IntKind.u32.wrap (un x + un y) = un (x + y) := by
  unfold un; rw [IntKind.wrap_u32, UInt32.toNat_add]; simp
@[go_sem] theorem un_sub (x y : UInt32) : IntKind.u32.wrap (un x - un y) = un (x - y) := by
  unfold un; rw [IntKind.wrap_u32, UInt32.toNat_sub]
  have := x.toNat_lt; have := y.toNat_lt
  simp; omega
theorem bv32 (x : UInt32) : BitVec.ofInt 32 (x.toNat : Int) = x.toBitVec := by
  apply BitVec.eq_of_toNat_eq
  simp
theorem wrap_u32_nat (n : Nat) (h : n < 4294967296) : IntKind.u32.wrap (n : Int) = n := by
  rw [IntKind.wrap_u32]; omega
@[go_sem] theorem un_xor (x y : UInt32) : bits BinOp.xor IntKind.u32 (un x) (un y) = un (x ^^^ y) := by
  unfold un; simp only [bits]
  rw [show IntKind.u32.bits = 32 from rfl, bv32, bv32, wrap_u32_nat _ (BitVec.isLt _)]; rfl
@[go_sem] theorem un_or (x y : UInt32) : bits BinOp.or IntKind.u32 (un x) (un y) = un (x ||| y) := by
  unfold un; simp only [bits]
  rw [show IntKind.u32.bits = 32 from rfl, bv32, bv32, wrap_u32_nat _ (BitVec.isLt _)]; rfl
@[go_sem] theorem un_and (x y : UInt32) : bits BinOp.and IntKind.u32 (un x) (un y) = un (x &&& y) := by
  unfold un; simp only [bits]
  rw [show IntKind.u32.bits = 32 from rfl, bv32, bv32, wrap_u32_nat _ (BitVec.isLt _)]; rfl
/-- A shift to the left, to the right, by a number that is written out. -/
theorem un_shl (x : UInt32) (k : Nat) (hk : k < 32) : IntKind.u32.wrap (un x * 2 ^ k) = un (x <<< UInt32.ofNat k) := by
  unfold un; rw [IntKind.wrap_u32, UInt32.toNat_shiftLeft]
  have e : (UInt32.ofNat k).toNat % 32 = k := by simp; omega
  rw [e, Nat.shiftLeft_eq, Int.natCast_emod, Int.natCast_mul, Int.natCast_pow]; rfl
theorem un_shr (x : UInt32) (k : Nat) (hk : k < 32) : un x / 2 ^ k = un (x >>> UInt32.ofNat k) := by
  unfold un; rw [UInt32.toNat_shiftRight]
  have e : (UInt32.ofNat k).toNat % 32 = k := by simp; omega
  rw [e, Nat.shiftRight_eq_div_pow, Int.natCast_ediv, Int.natCast_pow]; rfl

@[go_sem] theorem ln_u32 (x : UInt64) : IntKind.u32.wrap (ln x) = un x.toUInt32 := by
  unfold ln un; rw [IntKind.wrap_u32]; simp
@[go_sem] theorem bn_u32 (x : UInt8) : IntKind.u32.wrap (bn x) = un x.toUInt32 := by
  unfold bn un; rw [IntKind.wrap_u32]; have := x.toNat_lt; simp; omega
@[go_sem] theorem ln_shr32 (x : UInt64) : IntKind.u32.wrap (ln x / 2 ^ 32) = un (x >>> 32).toUInt32 := by
  unfold ln un; rw [IntKind.wrap_u32]
  simp [Nat.shiftRight_eq_div_pow]
@[go_sem] theorem ln_shr32n (x : UInt64) : IntKind.u32.wrap (ln x / 4294967296) = un (x >>> 32).toUInt32 := ln_shr32 x
@[go_sem] theorem un_not (x : UInt32) : bits BinOp.xor IntKind.u32 4294967295 (un x) = un (~~~x) := by
  have h := un_xor 4294967295 x
  rw [show (4294967295 : UInt32) ^^^ x = ~~~x by apply UInt32.toBitVec_inj.1; rw [UInt32.toBitVec_xor, UInt32.toBitVec_not]; exact BitVec.allOnes_xor] at h
  exact h
@[go_sem] theorem un_notm (x : UInt32) : bits BinOp.xor IntKind.u32 IntKind.u32.max (un x) = un (~~~x) := un_not x
theorem un_mul8 (x : UInt32) : IntKind.u32.wrap (un x * 256) = un (x <<< 8) := un_shl x 8 (by omega)
theorem un_mul16 (x : UInt32) : IntKind.u32.wrap (un x * 65536) = un (x <<< 16) := un_shl x 16 (by omega)
theorem un_mul24 (x : UInt32) : IntKind.u32.wrap (un x * 16777216) = un (x <<< 24) := un_shl x 24 (by omega)
@[go_sem] theorem ln_mod32 (x : UInt64) : IntKind.u32.wrap (ln x % 4294967296) = un x.toUInt32 := by
  rw [← ln_u32 x, IntKind.wrap_u32, IntKind.wrap_u32, Int.emod_emod]
@[go_sem] theorem un_notr (x : UInt32) : bits BinOp.xor IntKind.u32 (un x) 4294967295 = un (~~~x) := by
  have h := un_xor x 4294967295
  rw [show x ^^^ (4294967295 : UInt32) = ~~~x by apply UInt32.toBitVec_inj.1; rw [UInt32.toBitVec_xor, UInt32.toBitVec_not]; exact BitVec.xor_allOnes] at h
  exact h
@[go_sem] theorem ln_tmod (x : UInt64) : (ln x).tmod 4294967296 = ln x % 4294967296 := Int.tmod_eq_emod_of_nonneg (ln_lt x).1
@[go_sem] theorem ln_tdiv (x : UInt64) : (ln x).tdiv 4294967296 = ln x / 4294967296 := Int.tdiv_eq_ediv_of_nonneg (ln_lt x).1
@[go_sem] theorem ln_div64 (x : UInt64) : IntKind.u64.wrap (ln x / 4294967296) = ln x / 4294967296 := by
  have := ln_lt x
  rw [IntKind.wrap_u64]; omega
@[go_sem] theorem ln_mod64 (x : UInt64) : IntKind.u64.wrap (ln x % 4294967296) = ln x % 4294967296 := by
  have := ln_lt x
  rw [IntKind.wrap_u64]; omega
theorem un_byte (x : UInt32) : un x % 256 = bn x.toUInt8 := by
  unfold un bn; simp
@[go_sem] theorem i64_lit (n : Int) (h1 : -9223372036854775808 ≤ n) (h2 : n ≤ 9223372036854775807) : IntKind.i64.wrap n = n := IntWalk.i64_in n ⟨h1, h2⟩

end Go.Proofs.YtabjamkkhlbajaaDoor

/- Mix and Unmix of both texts: what each call does. -/
set_option linter.unusedSimpArgs false
set_option linter.unusedVariables false
set_option maxRecDepth 20000
namespace Go.Proofs.YtabjamkkhlbajaaDoor
open Go.RowKit

/-- x turned right by k. -/
def rr (x : UInt32) (k : Nat) : UInt32 := x >>> UInt32.ofNat k ||| x <<< UInt32.ofNat (32 - k)
theorem rr_int' (x : UInt32) (k : Nat) (hk : 0 < k ∧ k < 32) : bits BinOp.or IntKind.u32 (un x * 2 ^ (32 - k) % 4294967296) (un x / 2 ^ k) = un (rr x k) := by
  have h1 := un_shr x k (by omega)
  have h2 := un_shl x (32 - k) (by omega)
  rw [IntKind.wrap_u32] at h2
  rw [h1, h2, un_or, UInt32.or_comm]; rfl

set_option maxHeartbeats 400000 in
theorem right16 (x : UInt32) (w : World) :
    Calls Tryd.prog 86 #[U x, .int .i64 16] w fun e w' => e = .returned (U (rr x 16)) ∧ w = w' := by
  have e1 : bits BinOp.and IntKind.u64 (IntKind.u64.wrap (-16)) 31 = 16 := by decide
  go_enter Tryd.func86, Tryd.ntmps86
  go_wp2
  go_ret
  exact ⟨congrArg (fun n => Ending.returned (Value.int IntKind.u32 n)) (rr_int' x 16 (by omega)), rfl⟩
set_option maxHeartbeats 400000 in
theorem right12 (x : UInt32) (w : World) :
    Calls Tryd.prog 86 #[U x, .int .i64 12] w fun e w' => e = .returned (U (rr x 12)) ∧ w = w' := by
  have e1 : bits BinOp.and IntKind.u64 (IntKind.u64.wrap (-12)) 31 = 20 := by decide
  go_enter Tryd.func86, Tryd.ntmps86
  go_wp2
  go_ret
  exact ⟨congrArg (fun n => Ending.returned (Value.int IntKind.u32 n)) (rr_int' x 12 (by omega)), rfl⟩
set_option maxHeartbeats 400000 in
theorem right8 (x : UInt32) (w : World) :
    Calls Tryd.prog 86 #[U x, .int .i64 8] w fun e w' => e = .returned (U (rr x 8)) ∧ w = w' := by
  have e1 : bits BinOp.and IntKind.u64 (IntKind.u64.wrap (-8)) 31 = 24 := by decide
  go_enter Tryd.func86, Tryd.ntmps86
  go_wp2
  go_ret
  exact ⟨congrArg (fun n => Ending.returned (Value.int IntKind.u32 n)) (rr_int' x 8 (by omega)), rfl⟩
set_option maxHeartbeats 400000 in
theorem right7 (x : UInt32) (w : World) :
    Calls Tryd.prog 86 #[U x, .int .i64 7] w fun e w' => e = .returned (U (rr x 7)) ∧ w = w' := by
  have e1 : bits BinOp.and IntKind.u64 (IntKind.u64.wrap (-7)) 31 = 25 := by decide
  go_enter Tryd.func86, Tryd.ntmps86
  go_wp2
  go_ret
  exact ⟨congrArg (fun n => Ending.returned (Value.int IntKind.u32 n)) (rr_int' x 7 (by omega)), rfl⟩
def mix4 (a b c d x y : UInt32) : List UInt32 :=
  let a1 := a + (b + x); let d1 := rr (d ^^^ a1) 16; let c1 := c + d1; let b1 := rr (b ^^^ c1) 12
  let a2 := a1 + (b1 + y); let d2 := rr (d1 ^^^ a2) 8; let c2 := c1 + d2; let b2 := rr (b1 ^^^ c2) 7
  [a2, b2, c2, d2]

set_option maxHeartbeats 1000000 in
theorem mix_any (a b c d x y : UInt32) (w : World) :
    Calls Tryd.prog 82 #[.agg #[U a, U b, U c, U d], U x, U y] w (Post w (.agg ((mix4 a b c d x y).map U).toArray)) := by
  go_enter Tryd.func82, Tryd.ntmps82
  go_wp2_with (first | (go_at_call 86; ((with_reducible (first | refine (right16 _ _).mono ?_ | refine (right12 _ _).mono ?_ | refine (right8 _ _).mono ?_ | refine (right7 _ _).mono ?_)); rintro e w' ⟨rfl, rfl⟩)) | go_in)
  go_end0
  go_wp2_with (first | (go_at_call 86; ((with_reducible (first | refine (right16 _ _).mono ?_ | refine (right12 _ _).mono ?_ | refine (right8 _ _).mono ?_ | refine (right7 _ _).mono ?_)); rintro e w' ⟨rfl, rfl⟩)) | go_in)
  go_end0
  go_wp2_with (first | (go_at_call 86; ((with_reducible (first | refine (right16 _ _).mono ?_ | refine (right12 _ _).mono ?_ | refine (right8 _ _).mono ?_ | refine (right7 _ _).mono ?_)); rintro e w' ⟨rfl, rfl⟩)) | go_in)
  refine bodyPost_ret (v := .agg ((mix4 a b c d x y).map U).toArray) (by simp [results, Tryd.results82, go_sem, mix4]) rfl (post_mk rfl ?_)
  exact ex_alloc (ex_alloc (ex_refl _) _) _
end Go.Proofs.YtabjamkkhlbajaaDoor

/- The reference's Mix. -/
set_option linter.unusedSimpArgs false
set_option linter.unusedVariables false
set_option maxRecDepth 20000
namespace Go.Proofs.YtabjamkkhlbajaaDoor
open Go.RowKit
end Go.Proofs.YtabjamkkhlbajaaDoor

/- Disks: the plain law. -/
set_option linter.unusedSimpArgs false
set_option linter.unusedVariables false
namespace Go.Proofs.YtabjamkkhlbajaaDoor
abbrev Bk := Vector UInt8 64
def bkF (b : Bk) (i : Nat) : UInt8 := b.toArray.getD i 0
def ofBk (f : Nat → UInt8) : Bk := Vector.ofFn fun i => f i.val
theorem bkF_of (f : Nat → UInt8) (i : Nat) (h : i < 64) : bkF (ofBk f) i = f i := by
  unfold bkF ofBk
  rw [Array.getD_eq_getD_getElem?]
  simp [h]
theorem bkF_inj {b c : Bk} (h : ∀ i, i < 64 → bkF b i = bkF c i) : b = c := by
  apply Vector.ext
  intro i hi
  have := h i hi
  unfold bkF at this
  rw [Array.getD_eq_getD_getElem?, Array.getD_eq_getD_getElem?, Array.getElem?_eq_getElem (by simp [hi]), Array.getElem?_eq_getElem (by simp [hi])] at this
  simpa using this
def zeroB : Bk := ofBk fun _ => 0
abbrev Pt := Int × Bk
/-- A disk: its sectors, its queue, how far from its end, from a failure, without power, how many requests went well. -/
structure Dk where
  has : List Bk
  qu : List Pt
  ar : Int
  dm : Int
  dark : Bool
  ops : Nat
def newD (n : Nat) : Dk := ⟨List.replicate n zeroB, [], -1, -1, false, 0⟩
def down (x : Int) : Int := if x = -1 then -1 else x - 1
def litD (d : Dk) : Int := if d.dark then 9 else 0
/-- A request, ahead of what it does: the disk, the error. -/
def reqD (d : Dk) (s : Int) (ch : Bool) : Dk × Int :=
  if d.dark = true then (d, 9)
  else if ¬ (0 ≤ s ∧ s < d.has.length) then (d, 2)
  else if ch = true ∧ d.ar = 0 then ({ d with dm := down d.dm, dark := true }, 9)
  else if d.dm = 0 then ({ d with dm := down d.dm }, 8)
  else ({ d with dm := down d.dm, ar := if ch then down d.ar else d.ar }, 0)
def incD (d : Dk) : Dk := { d with ops := d.ops + 1 }
/-- The last write of a sector that waits. -/
def lastD (l : List Pt) (i : Int) : Option Bk := (l.reverse.find? fun p => decide (p.1 = i)).map (·.2)
def readsD (d : Dk) (i : Int) : Bk := (lastD d.qu i).getD (d.has.getD i.toNat zeroB)
/-- Writes that are done. -/
def doQ (has : List Bk) (k : Nat) : List Pt → (Nat → Bool) → List Bk
  | [], _ => has
  | p :: r, is => doQ (if is k = true then has.set p.1.toNat p.2 else has) (k + 1) r is
def readD (d : Dk) (i : Int) : Dk × Bk × Int := if (reqD d i false).2 = 0 then (incD (reqD d i false).1, readsD d i, 0) else ((reqD d i false).1, zeroB, (reqD d i false).2)
def writeD (d : Dk) (i : Int) (b : Bk) : Dk × Int := if (reqD d i true).2 = 0 then (incD { (reqD d i true).1 with qu := d.qu ++ [(i, b)] }, 0) else reqD d i true
def syncD (d : Dk) : Dk × Int := if (reqD d 0 true).2 = 0 then (incD { (reqD d 0 true).1 with has := doQ d.has 0 d.qu (fun _ => true), qu := [] }, 0) else reqD d 0 true
def armD (d : Dk) (n : Int) : Dk × Int := if d.dark = true then (d, 9) else ({ d with ar := max n (-1) }, 0)
def failD (d : Dk) (n : Int) : Dk × Int := if d.dark = true then (d, 9) else ({ d with dm := max n (-1) }, 0)
def keptL (keep : List Bool) (k : Nat) : Bool := keep.getD k false
/-- From the end: the greatest place below n that is kept. -/
def topK (keep : List Bool) : Nat → Option Nat
  | 0 => none
  | n + 1 => if keptL keep n = true then some n else topK keep n
def underK (keep : List Bool) (n : Nat) : Nat := match topK keep n with | none => 0 | some k => k - 3
def livesK (keep : List Bool) (n k : Nat) : Bool := decide (k < underK keep n) || keptL keep k
def crashD (d : Dk) (keep : List Bool) : Dk := { d with has := doQ d.has 0 d.qu (livesK keep d.qu.length), qu := [], dark := false, ar := -1, dm := -1 }
/-- What may be. -/
structure DkOk (d : Dk) : Prop where
  n1 : 1 ≤ d.has.length
  n2 : d.has.length ≤ 2048
  qn : d.qu.length ≤ 1000000
  qr : ∀ p ∈ d.qu, 0 ≤ p.1 ∧ p.1 < d.has.length
  a1 : -1 ≤ d.ar
  a2 : d.ar < 9223372036854775808
  d1 : -1 ≤ d.dm
  d2 : d.dm < 9223372036854775808
  on : d.ops ≤ 1000000000
theorem doQ_len : ∀ (l : List Pt) (has : List Bk) (k : Nat) (is : Nat → Bool), (doQ has k l is).length = has.length
  | [], _, _, _ => rfl
  | p :: r, has, k, is => by
    unfold doQ
    rw [doQ_len r]
    split <;> simp
theorem new_ok {n : Nat} (h1 : 1 ≤ n) (h2 : n ≤ 2048) : DkOk (newD n) :=
  ⟨by simp [newD, h1], by simp [newD, h2], by simp [newD], by simp [newD], by simp [newD], by simp [newD], by simp [newD], by simp [newD], by simp [newD]⟩
theorem req_same (d : Dk) (s : Int) (ch : Bool) : (reqD d s ch).1.has = d.has ∧ (reqD d s ch).1.qu = d.qu ∧ (reqD d s ch).1.ops = d.ops := by
  unfold reqD; repeat' split
  all_goals exact ⟨rfl, rfl, rfl⟩
theorem req_in {d : Dk} {s : Int} {ch : Bool} (h : (reqD d s ch).2 = 0) : 0 ≤ s ∧ s < d.has.length := by
  unfold reqD at h
  split at h
  · simp at h
  split at h
  · simp at h
  · rename_i h2; exact Decidable.not_not.1 h2
end Go.Proofs.YtabjamkkhlbajaaDoor

/- Disks: what writes that are done lead to. -/
set_option linter.unusedSimpArgs false
set_option linter.unusedVariables false
namespace Go.Proofs.YtabjamkkhlbajaaDoor
/-- The same, one sector. -/
def pickQ (i : Nat) (k : Nat) : List Pt → (Nat → Bool) → Bk → Bk
  | [], _, b => b
  | p :: r, is, b => pickQ i (k + 1) r is (if is k = true ∧ p.1.toNat = i then p.2 else b)
theorem doQ_get (i : Nat) (is : Nat → Bool) : ∀ (l : List Pt) (has : List Bk) (k : Nat) (b : Bk), has[i]? = some b → (doQ has k l is)[i]? = some (pickQ i k l is b)
  | [], _, _, _, h => h
  | p :: r, has, k, b, h => by
    unfold doQ pickQ
    refine doQ_get i is r _ (k + 1) _ ?_
    have hi := (List.getElem?_eq_some_iff.1 h).1
    by_cases h1 : is k = true
    · by_cases h2 : p.1.toNat = i
      · rw [if_pos h1, if_pos ⟨h1, h2⟩, h2, List.getElem?_set_self hi]
      · rw [if_pos h1, if_neg (fun h => h2 h.2), List.getElem?_set_ne h2]; exact h
    · rw [if_neg h1, if_neg (fun h => h1 h.1)]; exact h
theorem pick_all (i : Nat) : ∀ (l : List Pt) (k : Nat) (b : Bk), (∀ p ∈ l, 0 ≤ p.1) → pickQ i k l (fun _ => true) b = (lastD l i).getD b
  | [], _, b, _ => rfl
  | p :: r, k, b, h => by
    have h0 := h p (by simp)
    unfold pickQ
    rw [pick_all i r (k + 1) _ fun q hq => h q (by simp [hq])]
    unfold lastD
    rw [List.reverse_cons, List.find?_append]
    cases hf : r.reverse.find? fun p => decide (p.1 = (i : Int)) with
    | some q => simp
    | none =>
      simp only [Option.none_or, Option.map_none, Option.getD_none, true_and]
      by_cases hp : p.1 = i
      · have : p.1.toNat = i := by omega
        simp [hp]
      · have : ¬ p.1.toNat = i := by omega
        simp [hp, this]
/-- A crash. -/
theorem topK_spec (keep : List Bool) : ∀ n k, topK keep n = some k ↔ (k < n ∧ keptL keep k = true ∧ ∀ p, k < p → p < n → keptL keep p = false)
  | 0, k => by simp [topK]
  | n + 1, k => by
    unfold topK
    by_cases h : keptL keep n = true
    · rw [if_pos h]
      constructor
      · intro e
        obtain rfl := Option.some.inj e
        exact ⟨by omega, h, fun p h1 h2 => by omega⟩
      · rintro ⟨h1, h2, h3⟩
        by_cases hk : k = n
        · rw [hk]
        · have := h3 n (by omega) (by omega)
          rw [h] at this; cases this
    · rw [if_neg h, topK_spec keep n k]
      have hn : keptL keep n = false := by simpa using h
      constructor
      · rintro ⟨h1, h2, h3⟩
        refine ⟨by omega, h2, fun p h4 h5 => ?_⟩
        by_cases hp : p = n
        · rw [hp]; exact hn
        · exact h3 p h4 (by omega)
      · rintro ⟨h1, h2, h3⟩
        refine ⟨?_, h2, fun p h4 h5 => h3 p h4 (by omega)⟩
        by_cases hk : k = n
        · rw [hk, hn] at h2; cases h2
        · omega
theorem topK_none (keep : List Bool) : ∀ n, topK keep n = none ↔ ∀ p, p < n → keptL keep p = false
  | 0 => by simp [topK]
  | n + 1 => by
    unfold topK
    by_cases h : keptL keep n = true
    · rw [if_pos h]
      constructor
      · intro e; cases e
      · intro h2; rw [h2 n (by omega)] at h; cases h
    · rw [if_neg h, topK_none keep n]
      have hn : keptL keep n = false := by simpa using h
      constructor
      · intro h2 p hp
        by_cases hpn : p = n
        · rw [hpn]; exact hn
        · exact h2 p (by omega)
      · intro h2 p hp; exact h2 p (by omega)
end Go.Proofs.YtabjamkkhlbajaaDoor

/- What is asked of a disk: the plain law. -/
set_option linter.unusedSimpArgs false
set_option linter.unusedVariables false
namespace Go.Proofs.YtabjamkkhlbajaaDoor
end Go.Proofs.YtabjamkkhlbajaaDoor

/- Disks: the plain law of views, of what a crash leaves. -/
set_option linter.unusedSimpArgs false
set_option linter.unusedVariables false
namespace Go.Proofs.YtabjamkkhlbajaaDoor
/-- A disk without a fault, read. -/
structure Calm (d : Dk) : Prop where
  dark : d.dark = false
  dm : d.dm = -1
  ar : d.ar = -1
theorem crash_calm (d : Dk) (keep : List Bool) : Calm (crashD d keep) := ⟨rfl, rfl, rfl⟩
theorem calm_req {d : Dk} (h : Calm d) {i : Int} (hi : 0 ≤ i ∧ i < d.has.length) (ch : Bool) : reqD d i ch = (d, 0) := by
  obtain ⟨h1, h2, h3⟩ := h
  unfold reqD
  rw [if_neg (by simp [h1]), if_neg (by simpa using hi), if_neg (by simp [h3]), if_neg (by simp [h2])]
  cases d
  simp only at h1 h2 h3
  subst h1 h2 h3
  simp [down]
end Go.Proofs.YtabjamkkhlbajaaDoor
