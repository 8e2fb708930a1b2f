/- A digest, in plain Lean. -/
import Derived.Test.YtbobamifpjlmiaaDoorSpec
set_option linter.unusedSimpArgs false
set_option linter.unusedVariables false
set_option maxRecDepth 20000
namespace Go.Proofs.YtbobamifpjlmiaaDoor
/-- The numbers ahead of the first block; behind k blocks that are not the last. -/
def sumK (f : Nat → UInt8) : Nat → (Nat → UInt32)
  | 0 => upd startF 0 (startF 0 ^^^ 16842784)
  | k + 1 => blockF (sumK f k) (shiftF f (64 * k)) (UInt64.ofNat (64 * k + 64)) false
/-- How many blocks stand ahead of the last. -/
def lastK (n : Nat) : Nat := (n - 1) / 64
def tailF (f : Nat → UInt8) (n k : Nat) : Nat → UInt8 := over (fun _ => 0) 0 (n - 64 * k) (shiftF f (64 * k))
def sumU (f : Nat → UInt8) (n : Nat) : Nat → UInt32 := blockF (sumK f (lastK n)) (tailF f n (lastK n)) (UInt64.ofNat n) true
/-- The bytes of numbers. -/
def byteF (h : Nat → UInt32) : Nat → UInt8 := fun i => (h (i / 4) >>> UInt32.ofNat (8 * (i % 4))).toUInt8
def sumF (f : Nat → UInt8) (n : Nat) : Nat → UInt8 := byteF (sumU f n)
end Go.Proofs.YtbobamifpjlmiaaDoor
