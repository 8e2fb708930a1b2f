/- What a block's numbers become: in plain Lean, and the mixing over rows. -/
import Derived.Test.YtbobamifpjlmiaaDoorLittle
import Derived.Test.YtbobamifpjlmiaaDoorMix
import Derived.Test.YtbobamifpjlmiaaDoorStrs
import Derived.BigRegion
set_option linter.unusedSimpArgs false
set_option linter.unusedVariables false
set_option maxRecDepth 20000
namespace Go.Proofs.YtbobamifpjlmiaaDoor
open Go.RowKit

/-- Four numbers that are mixed, place by place. -/
def mixL (a b c d x y : UInt32) : Nat → UInt32 := fun k => (mix4 a b c d x y).getD k 0
theorem mix_row (a b c d x y : UInt32) : ((mix4 a b c d x y).map U).toArray = rowU 4 (mixL a b c d x y) := rfl
theorem mix_rowed (a b c d x y : UInt32) (w : World) :
    Calls Tryd.prog 111 #[.agg #[U a, U b, U c, U d], U x, U y] w (Post w (.agg (rowU 4 (mixL a b c d x y)))) := mix_any a b c d x y w
/-- The first k of them laid back. -/
def stepK (v : Nat → UInt32) (p : Nat → Nat) (l : Nat → UInt32) : Nat → (Nat → UInt32)
  | 0 => v
  | k + 1 => upd (stepK v p l k) (p k) (l k)
/-- One mixing of sixteen numbers. -/
def step (v : Nat → UInt32) (p : Nat → Nat) (x y : UInt32) : Nat → UInt32 := stepK v p (mixL (v (p 0)) (v (p 1)) (v (p 2)) (v (p 3)) x y) 4
/-- The first i mixings of a round; the first n rounds. -/
def rndI (m : Nat → UInt32) (s : Nat → Nat) (v : Nat → UInt32) : Nat → (Nat → UInt32)
  | 0 => v
  | i + 1 => step (rndI m s v i) (fun k => foursN.getD (i * 4 + k) 0) (m (s (2 * i))) (m (s (2 * i + 1)))
def rndN (m : Nat → UInt32) (v : Nat → UInt32) : Nat → (Nat → UInt32)
  | 0 => v
  | n + 1 => rndI m (fun j => ordersN.getD (n * 16 + j) 0) (rndN m v n) 8
/-- What is mixed first. -/
def v0F (h : Nat → UInt32) (t : UInt64) (last : Bool) : Nat → UInt32 :=
  let v := over (over (fun _ => 0) 0 8 h) 8 8 startF
  let v1 := upd v 12 (v 12 ^^^ t.toUInt32)
  let v2 := upd v1 13 (v1 13 ^^^ (t >>> 32).toUInt32)
  if last then upd v2 14 (~~~ v2 14) else v2
def wordsF (b : Nat → UInt8) : Nat → UInt32 := fun j => leK (shiftF b (4 * j)) 4
def blockF (h : Nat → UInt32) (b : Nat → UInt8) (t : UInt64) (last : Bool) : Nat → UInt32 :=
  let v := rndN (wordsF b) (v0F h t last) 10
  fun i => h i ^^^ (v i ^^^ v (i + 8))

/-- A row of places. -/
def natI (s : Nat → Nat) : Nat → Int := fun j => (s j : Nat)
@[go_sem] theorem natI_at (s : Nat → Nat) (j : Nat) : natI s j = (s j : Nat) := rfl
theorem ordersF_shift (n : Nat) : shiftF ordersF (n * 16) = natI (fun j => ordersN.getD (n * 16 + j) 0) := rfl
theorem foursF_shift (n : Nat) : shiftF foursF (n * 4) = natI (fun j => foursN.getD (n * 4 + j) 0) := rfl

end Go.Proofs.YtbobamifpjlmiaaDoor
