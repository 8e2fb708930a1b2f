import Derived.Test.YtdohohafdplkiaaMSlR
import Derived.Test.YtdohohafdplkiaaMEq
import Derived.Test.YtdohohafdplkiaaChecked

/- The program's rows: how they are read and laid (disks). -/
set_option linter.unusedSimpArgs false
set_option linter.unusedVariables false
set_option maxRecDepth 20000
namespace Go.Proofs.Ytdohohafdplkiaa
open Go.RowKit
theorem info_blk : (Try.prog.info? 39).map (·.size) = some 64 := by kernel_rfl
@[go_sem] theorem load_blk (b o : Nat) (w : World) : loadRun Try.prog 39 (.pointer (some ⟨b, o, none⟩)) w = match cellsN w b o 64 with | some cs => .ok (.value (.agg cs)) w | none => loadRaw Try.prog 39 (.pointer (some ⟨b, o, none⟩)) w := loadRun_row Try.underlying39 rfl info_blk b o w
@[go_sem] theorem store_blk (b o : Nat) (vs : Array Value) (w : World) : storeRun Try.prog 39 (.pointer (some ⟨b, o, none⟩)) (.agg vs) w = if (vs.size == 64 && (cellsN w b o 64).isSome && !frozenN w b o 64 && oneCells vs) = true then .ok .skip (w.setCells b o vs.toList) else storeRaw Try.prog 39 (.pointer (some ⟨b, o, none⟩)) (.agg vs) w := storeRun_row info_blk b o vs w
theorem info_put : (Try.prog.info? 87).map (·.size) = some 65 := by kernel_rfl
@[go_sem] theorem load_put (b o : Nat) (w : World) : loadRun Try.prog 87 (.pointer (some ⟨b, o, none⟩)) w = match cellsN w b o 65 with | some cs => .ok (.value (.agg cs)) w | none => loadRaw Try.prog 87 (.pointer (some ⟨b, o, none⟩)) w := loadRun_row Try.underlying87 rfl info_put b o w
@[go_sem] theorem store_put (b o : Nat) (vs : Array Value) (w : World) : storeRun Try.prog 87 (.pointer (some ⟨b, o, none⟩)) (.agg vs) w = if (vs.size == 65 && (cellsN w b o 65).isSome && !frozenN w b o 65 && oneCells vs) = true then .ok .skip (w.setCells b o vs.toList) else storeRaw Try.prog 87 (.pointer (some ⟨b, o, none⟩)) (.agg vs) w := storeRun_row info_put b o vs w
theorem info_dk : (Try.prog.info? 70).map (·.size) = some 6 := by kernel_rfl
@[go_sem] theorem load_dk (b o : Nat) (w : World) : loadRun Try.prog 70 (.pointer (some ⟨b, o, none⟩)) w = match cellsN w b o 6 with | some cs => .ok (.value (.agg cs)) w | none => loadRaw Try.prog 70 (.pointer (some ⟨b, o, none⟩)) w := loadRun_row Try.underlying70 rfl info_dk b o w
@[go_sem] theorem store_dk (b o : Nat) (vs : Array Value) (w : World) : storeRun Try.prog 70 (.pointer (some ⟨b, o, none⟩)) (.agg vs) w = if (vs.size == 6 && (cellsN w b o 6).isSome && !frozenN w b o 6 && oneCells vs) = true then .ok .skip (w.setCells b o vs.toList) else storeRaw Try.prog 70 (.pointer (some ⟨b, o, none⟩)) (.agg vs) w := storeRun_row info_dk b o vs w
theorem info_rdk : (Try.prog.info? 32).map (·.size) = some 6 := by kernel_rfl
@[go_sem] theorem load_rdk (b o : Nat) (w : World) : loadRun Try.prog 32 (.pointer (some ⟨b, o, none⟩)) w = match cellsN w b o 6 with | some cs => .ok (.value (.agg cs)) w | none => loadRaw Try.prog 32 (.pointer (some ⟨b, o, none⟩)) w := loadRun_row Try.underlying32 rfl info_rdk b o w
@[go_sem] theorem store_rdk (b o : Nat) (vs : Array Value) (w : World) : storeRun Try.prog 32 (.pointer (some ⟨b, o, none⟩)) (.agg vs) w = if (vs.size == 6 && (cellsN w b o 6).isSome && !frozenN w b o 6 && oneCells vs) = true then .ok .skip (w.setCells b o vs.toList) else storeRaw Try.prog 32 (.pointer (some ⟨b, o, none⟩)) (.agg vs) w := storeRun_row info_rdk b o vs w
theorem info_rput : (Try.prog.info? 72).map (·.size) = some 65 := by kernel_rfl
@[go_sem] theorem load_rput (b o : Nat) (w : World) : loadRun Try.prog 72 (.pointer (some ⟨b, o, none⟩)) w = match cellsN w b o 65 with | some cs => .ok (.value (.agg cs)) w | none => loadRaw Try.prog 72 (.pointer (some ⟨b, o, none⟩)) w := loadRun_row Try.underlying72 rfl info_rput b o w
@[go_sem] theorem store_rput (b o : Nat) (vs : Array Value) (w : World) : storeRun Try.prog 72 (.pointer (some ⟨b, o, none⟩)) (.agg vs) w = if (vs.size == 65 && (cellsN w b o 65).isSome && !frozenN w b o 65 && oneCells vs) = true then .ok .skip (w.setCells b o vs.toList) else storeRaw Try.prog 72 (.pointer (some ⟨b, o, none⟩)) (.agg vs) w := storeRun_row info_rput b o vs w
theorem info_ask : (Try.prog.info? 37).map (·.size) = some 4 := by kernel_rfl
@[go_sem] theorem load_ask (b o : Nat) (w : World) : loadRun Try.prog 37 (.pointer (some ⟨b, o, none⟩)) w = match cellsN w b o 4 with | some cs => .ok (.value (.agg cs)) w | none => loadRaw Try.prog 37 (.pointer (some ⟨b, o, none⟩)) w := loadRun_row Try.underlying37 rfl info_ask b o w
@[go_sem] theorem store_ask (b o : Nat) (vs : Array Value) (w : World) : storeRun Try.prog 37 (.pointer (some ⟨b, o, none⟩)) (.agg vs) w = if (vs.size == 4 && (cellsN w b o 4).isSome && !frozenN w b o 4 && oneCells vs) = true then .ok .skip (w.setCells b o vs.toList) else storeRaw Try.prog 37 (.pointer (some ⟨b, o, none⟩)) (.agg vs) w := storeRun_row info_ask b o vs w
theorem info_nine : (Try.prog.info? 48).map (·.size) = some 576 := by kernel_rfl
@[go_sem] theorem load_nine (b o : Nat) (w : World) : loadRun Try.prog 48 (.pointer (some ⟨b, o, none⟩)) w = match cellsN w b o 576 with | some cs => .ok (.value (.agg cs)) w | none => loadRaw Try.prog 48 (.pointer (some ⟨b, o, none⟩)) w := loadRun_row Try.underlying48 rfl info_nine b o w
@[go_sem] theorem store_nine (b o : Nat) (vs : Array Value) (w : World) : storeRun Try.prog 48 (.pointer (some ⟨b, o, none⟩)) (.agg vs) w = if (vs.size == 576 && (cellsN w b o 576).isSome && !frozenN w b o 576 && oneCells vs) = true then .ok .skip (w.setCells b o vs.toList) else storeRaw Try.prog 48 (.pointer (some ⟨b, o, none⟩)) (.agg vs) w := storeRun_row info_nine b o vs w
theorem copyinfo_blk : (Try.prog.info? 39).map (·.size) = some 64 := by kernel_rfl
@[go_sem] theorem copy_blk (ty sT b o b' o' n c n' c' : Nat) (w : World) : copyRun Try.prog #[29, sT] ty (.slice (some ⟨b, o, none⟩) n c) (.slice (some ⟨b', o', none⟩) n' c') w =
      match cellsN w b' o' (min n' n * 64) with
      | some cs => if ((cellsN w b o (min n' n * 64)).isSome && !frozenN w b o (min n' n * 64) && oneCells cs) = true then .ok (.value (.int .i64 (min n' n : Nat))) (w.setCells b o cs.toList)
        else copyRaw Try.prog #[29, sT] ty (.slice (some ⟨b, o, none⟩) n c) (.slice (some ⟨b', o', none⟩) n' c') w
      | none => copyRaw Try.prog #[29, sT] ty (.slice (some ⟨b, o, none⟩) n c) (.slice (some ⟨b', o', none⟩) n' c') w := copyRun_wide Try.underlying29 copyinfo_blk ty b o b' o' n c n' c' w
@[go_sem high] theorem eql_blk (f g : Nat → UInt8) (w : World) : (binOp .eql 39 (.agg (rowB 64 f)) (.agg (rowB 64 g))).run Try.prog w = .ok (.bool (eqF f g 64)) w := eqlB Try.underlying39 Try.underlying5 (by kernel_rfl) f g w
@[go_sem high] theorem neq_blk (f g : Nat → UInt8) (w : World) : (binOp .neq 39 (.agg (rowB 64 f)) (.agg (rowB 64 g))).run Try.prog w = .ok (.bool (!eqF f g 64)) w := neqB Try.underlying39 Try.underlying5 (by kernel_rfl) f g w
@[go_sem] theorem zagg_B64 : Value.agg #[.int .u8 0, .int .u8 0, .int .u8 0, .int .u8 0, .int .u8 0, .int .u8 0, .int .u8 0, .int .u8 0, .int .u8 0, .int .u8 0, .int .u8 0, .int .u8 0, .int .u8 0, .int .u8 0, .int .u8 0, .int .u8 0, .int .u8 0, .int .u8 0, .int .u8 0, .int .u8 0, .int .u8 0, .int .u8 0, .int .u8 0, .int .u8 0, .int .u8 0, .int .u8 0, .int .u8 0, .int .u8 0, .int .u8 0, .int .u8 0, .int .u8 0, .int .u8 0, .int .u8 0, .int .u8 0, .int .u8 0, .int .u8 0, .int .u8 0, .int .u8 0, .int .u8 0, .int .u8 0, .int .u8 0, .int .u8 0, .int .u8 0, .int .u8 0, .int .u8 0, .int .u8 0, .int .u8 0, .int .u8 0, .int .u8 0, .int .u8 0, .int .u8 0, .int .u8 0, .int .u8 0, .int .u8 0, .int .u8 0, .int .u8 0, .int .u8 0, .int .u8 0, .int .u8 0, .int .u8 0, .int .u8 0, .int .u8 0, .int .u8 0, .int .u8 0] = .agg (rowB 64 (fun _ => 0)) := rfl
/-- A write's zero value. (The loader names the zero values of wide types in great programs only.) -/
def zPut : Array Value := #[.int .i64 0] ++ rowB 64 fun _ => 0
@[go_sem] theorem zPut_size : zPut.size = 65 := by simp [zPut]
@[go_sem] theorem zPut_ne : (zPut = #[]) = False := eq_false fun h => by have := zPut_size; rw [h] at this; cases this
@[go_sem high] theorem zv_put (w : World) : (zeroValue 87).run Try.prog w = .ok (.agg zPut) w := by kernel_rfl
@[go_sem high] theorem zv_nine (w : World) : (zeroValue 48).run Try.prog w = .ok (.agg (rowB 576 fun _ => 0)) w := by kernel_rfl
end Go.Proofs.Ytdohohafdplkiaa
