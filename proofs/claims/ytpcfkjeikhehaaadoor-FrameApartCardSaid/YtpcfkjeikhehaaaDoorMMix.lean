import Derived.Test.YtpcfkjeikhehaaaDoorMWords
import Derived.Test.YtpcfkjeikhehaaaDoorChecked

/- Mix and Unmix of both texts: what each call does. -/
set_option linter.unusedSimpArgs false
set_option linter.unusedVariables false
set_option maxRecDepth 20000
namespace Go.Proofs.YtpcfkjeikhehaaaDoor
open Go.RowKit

/-- x turned right by k. -/
def rr (x : UInt32) (k : Nat) : UInt32 := x >>> UInt32.ofNat k ||| x <<< UInt32.ofNat (32 - k)
theorem rr_int (x : UInt32) (k : Nat) (hk : 0 < k ∧ k < 32) : bits BinOp.or IntKind.u32 (un x / 2 ^ k) (un x * 2 ^ (32 - k) % 4294967296) = un (rr x k) := by
  have h1 := un_shr x k (by omega)
  have h2 := un_shl x (32 - k) (by omega)
  rw [IntKind.wrap_u32] at h2
  rw [h1, h2, un_or]; rfl
theorem rr_int' (x : UInt32) (k : Nat) (hk : 0 < k ∧ k < 32) : bits BinOp.or IntKind.u32 (un x * 2 ^ (32 - k) % 4294967296) (un x / 2 ^ k) = un (rr x k) := by
  have h1 := un_shr x k (by omega)
  have h2 := un_shl x (32 - k) (by omega)
  rw [IntKind.wrap_u32] at h2
  rw [h1, h2, un_or, UInt32.or_comm]; rfl

set_option maxHeartbeats 400000 in
theorem turned_any (x : UInt32) (k : Nat) (hk : 0 < k ∧ k < 32) (w : World) :
    Calls Tryd.prog 101 #[U x, .int .i64 k] w fun e w' => e = .returned (U (rr x k)) ∧ w.drew = w' := by
  go_enter Tryd.func101, Tryd.ntmps101
  go_wp2
  go_region
  go_wp2
  go_ret
  exact ⟨congrArg (fun n => Ending.returned (Value.int IntKind.u32 n)) (rr_int x k hk), rfl⟩

theorem turned16 (x : UInt32) (w : World) : Calls Tryd.prog 101 #[U x, .int .i64 16] w fun e w' => e = .returned (U (rr x 16)) ∧ w.drew = w' := turned_any x 16 (by omega) w
theorem turned12 (x : UInt32) (w : World) : Calls Tryd.prog 101 #[U x, .int .i64 12] w fun e w' => e = .returned (U (rr x 12)) ∧ w.drew = w' := turned_any x 12 (by omega) w
theorem turned8 (x : UInt32) (w : World) : Calls Tryd.prog 101 #[U x, .int .i64 8] w fun e w' => e = .returned (U (rr x 8)) ∧ w.drew = w' := turned_any x 8 (by omega) w
theorem turned7 (x : UInt32) (w : World) : Calls Tryd.prog 101 #[U x, .int .i64 7] w fun e w' => e = .returned (U (rr x 7)) ∧ w.drew = w' := turned_any x 7 (by omega) w
set_option maxHeartbeats 400000 in
theorem right16 (x : UInt32) (w : World) :
    Calls Tryd.prog 100 #[U x, .int .i64 16] w fun e w' => e = .returned (U (rr x 16)) ∧ w = w' := by
  have e1 : bits BinOp.and IntKind.u64 (IntKind.u64.wrap (-16)) 31 = 16 := by decide
  go_enter Tryd.func100, Tryd.ntmps100
  go_wp2
  go_ret
  exact ⟨congrArg (fun n => Ending.returned (Value.int IntKind.u32 n)) (rr_int' x 16 (by omega)), rfl⟩
set_option maxHeartbeats 400000 in
theorem left16 (x : UInt32) (w : World) :
    Calls Tryd.prog 100 #[U x, .int .i64 (-16)] w fun e w' => e = .returned (U (rr x 16)) ∧ w = w' := by
  have e1 : bits BinOp.and IntKind.u64 16 31 = 16 := by decide
  go_enter Tryd.func100, Tryd.ntmps100
  go_wp2
  go_ret
  exact ⟨congrArg (fun n => Ending.returned (Value.int IntKind.u32 n)) (rr_int' x 16 (by omega)), rfl⟩
set_option maxHeartbeats 400000 in
theorem right12 (x : UInt32) (w : World) :
    Calls Tryd.prog 100 #[U x, .int .i64 12] w fun e w' => e = .returned (U (rr x 12)) ∧ w = w' := by
  have e1 : bits BinOp.and IntKind.u64 (IntKind.u64.wrap (-12)) 31 = 20 := by decide
  go_enter Tryd.func100, Tryd.ntmps100
  go_wp2
  go_ret
  exact ⟨congrArg (fun n => Ending.returned (Value.int IntKind.u32 n)) (rr_int' x 12 (by omega)), rfl⟩
set_option maxHeartbeats 400000 in
theorem left12 (x : UInt32) (w : World) :
    Calls Tryd.prog 100 #[U x, .int .i64 (-12)] w fun e w' => e = .returned (U (rr x 20)) ∧ w = w' := by
  have e1 : bits BinOp.and IntKind.u64 12 31 = 12 := by decide
  go_enter Tryd.func100, Tryd.ntmps100
  go_wp2
  go_ret
  exact ⟨congrArg (fun n => Ending.returned (Value.int IntKind.u32 n)) (rr_int' x 20 (by omega)), rfl⟩
set_option maxHeartbeats 400000 in
theorem right8 (x : UInt32) (w : World) :
    Calls Tryd.prog 100 #[U x, .int .i64 8] w fun e w' => e = .returned (U (rr x 8)) ∧ w = w' := by
  have e1 : bits BinOp.and IntKind.u64 (IntKind.u64.wrap (-8)) 31 = 24 := by decide
  go_enter Tryd.func100, Tryd.ntmps100
  go_wp2
  go_ret
  exact ⟨congrArg (fun n => Ending.returned (Value.int IntKind.u32 n)) (rr_int' x 8 (by omega)), rfl⟩
set_option maxHeartbeats 400000 in
theorem left8 (x : UInt32) (w : World) :
    Calls Tryd.prog 100 #[U x, .int .i64 (-8)] w fun e w' => e = .returned (U (rr x 24)) ∧ w = w' := by
  have e1 : bits BinOp.and IntKind.u64 8 31 = 8 := by decide
  go_enter Tryd.func100, Tryd.ntmps100
  go_wp2
  go_ret
  exact ⟨congrArg (fun n => Ending.returned (Value.int IntKind.u32 n)) (rr_int' x 24 (by omega)), rfl⟩
set_option maxHeartbeats 400000 in
theorem right7 (x : UInt32) (w : World) :
    Calls Tryd.prog 100 #[U x, .int .i64 7] w fun e w' => e = .returned (U (rr x 7)) ∧ w = w' := by
  have e1 : bits BinOp.and IntKind.u64 (IntKind.u64.wrap (-7)) 31 = 25 := by decide
  go_enter Tryd.func100, Tryd.ntmps100
  go_wp2
  go_ret
  exact ⟨congrArg (fun n => Ending.returned (Value.int IntKind.u32 n)) (rr_int' x 7 (by omega)), rfl⟩
set_option maxHeartbeats 400000 in
theorem left7 (x : UInt32) (w : World) :
    Calls Tryd.prog 100 #[U x, .int .i64 (-7)] w fun e w' => e = .returned (U (rr x 25)) ∧ w = w' := by
  have e1 : bits BinOp.and IntKind.u64 7 31 = 7 := by decide
  go_enter Tryd.func100, Tryd.ntmps100
  go_wp2
  go_ret
  exact ⟨congrArg (fun n => Ending.returned (Value.int IntKind.u32 n)) (rr_int' x 25 (by omega)), rfl⟩

/-- Half of a mixing. -/
def mixA (a b z : UInt32) : UInt32 := a + (b + z)
def mix4 (a b c d x y : UInt32) : List UInt32 :=
  let a1 := a + (b + x); let d1 := rr (d ^^^ a1) 16; let c1 := c + d1; let b1 := rr (b ^^^ c1) 12
  let a2 := a1 + (b1 + y); let d2 := rr (d1 ^^^ a2) 8; let c2 := c1 + d2; let b2 := rr (b1 ^^^ c2) 7
  [a2, b2, c2, d2]

set_option maxHeartbeats 1000000 in
theorem mix_any (a b c d x y : UInt32) (w : World) :
    Calls Tryd.prog 93 #[.agg #[U a, U b, U c, U d], U x, U y] w (Post w (.agg ((mix4 a b c d x y).map U).toArray)) := by
  go_enter Tryd.func93, Tryd.ntmps93
  go_wp2_with (first | (go_at_call 100; ((with_reducible (first | refine (right16 _ _).mono ?_ | refine (right12 _ _).mono ?_ | refine (right8 _ _).mono ?_ | refine (right7 _ _).mono ?_)); rintro e w' ⟨rfl, rfl⟩)) | go_in)
  go_end0
  go_wp2_with (first | (go_at_call 100; ((with_reducible (first | refine (right16 _ _).mono ?_ | refine (right12 _ _).mono ?_ | refine (right8 _ _).mono ?_ | refine (right7 _ _).mono ?_)); rintro e w' ⟨rfl, rfl⟩)) | go_in)
  go_end0
  go_wp2_with (first | (go_at_call 100; ((with_reducible (first | refine (right16 _ _).mono ?_ | refine (right12 _ _).mono ?_ | refine (right8 _ _).mono ?_ | refine (right7 _ _).mono ?_)); rintro e w' ⟨rfl, rfl⟩)) | go_in)
  refine bodyPost_ret (v := .agg ((mix4 a b c d x y).map U).toArray) (by simp [results, Tryd.results93, go_sem, mix4]) rfl (post_mk rfl ?_)
  exact ex_alloc (ex_alloc (ex_refl _) _) _
end Go.Proofs.YtpcfkjeikhehaaaDoor
