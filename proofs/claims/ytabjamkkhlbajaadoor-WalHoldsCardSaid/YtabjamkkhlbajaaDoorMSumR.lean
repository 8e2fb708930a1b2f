import Derived.Test.YtabjamkkhlbajaaDoorMLittle
import Derived.Test.YtabjamkkhlbajaaDoorMSl

/- Sum of the document: what it does. -/
set_option linter.unusedSimpArgs false
set_option linter.unusedVariables false
set_option maxRecDepth 20000
namespace Go.Proofs.YtabjamkkhlbajaaDoor
open Go.RowKit
@[local go_sem] theorem un_xor_formR (x : UInt32) : bits BinOp.xor IntKind.u32 (un x) 16842784 = un (x ^^^ 16842784) := un_xor x 16842784
@[local go_sem] theorem un_tmod256 (x : UInt32) : (un x).tmod 256 = un (x % 256) := by
  unfold un; simp [Int.tmod_eq_emod_of_nonneg]
@[local go_sem] theorem un_tdiv256 (x : UInt32) : (un x).tdiv 256 = un (x / 256) := by
  unfold un; simp [Int.tdiv_eq_ediv_of_nonneg]
@[local go_sem] theorem un_wrap32 (x : UInt32) : IntKind.u32.wrap (un x) = un x := by
  have := un_lt x; rw [IntKind.wrap_u32]; omega
@[local go_sem] theorem un_wrap8 (x : UInt32) : IntKind.u8.wrap (un x) = bn x.toUInt8 := by
  unfold un bn; rw [IntKind.wrap_u8]; simp
end Go.Proofs.YtabjamkkhlbajaaDoor
