import Derived.Test.YtdohohafdplkiaaMMem
import Derived.Test.YtdohohafdplkiaaMSlR
import Derived.Test.YtdohohafdplkiaaChecked

/- Arrays of numbers that are held against one another. Over whatever program. -/
set_option linter.unusedSimpArgs false
set_option linter.unusedVariables false
set_option maxRecDepth 20000
namespace Go.Proofs.Ytdohohafdplkiaa
open Go.RowKit
section
variable {P : Program}
theorem equalIn_ints {t e : TypeId} {k : IntKind} {len : Nat} (hu : P.underlying t = some (.array len e)) (he : P.underlying e = some (.int k)) (hs : (P.info? e).map (·.size) = some 1) (xs ys : Array Value) (x y : Nat → Int)
    (hx : ∀ i, i < len → xs[i]? = some (.int k (x i))) (hy : ∀ i, i < len → ys[i]? = some (.int k (y i))) (d : Nat) (w : World) :
    (Op.equalIn (d + 2) t (.agg xs) (.agg ys)).run P w = .ok ((List.range len).all fun i => x i == y i) w := by
  obtain ⟨j, hj, hsz⟩ : ∃ j, P.info? e = some j ∧ j.size = 1 := by
    cases hq : P.info? e with
    | none => rw [hq] at hs; cases hs
    | some i => exact ⟨i, rfl, by rw [hq] at hs; simpa using hs⟩
  have hce : P.cellsOf e = 1 := by simp [Program.cellsOf, hj, hsz]
  have hpart : ∀ (zs : Array Value) (z : Nat → Int) (i : Nat), zs[i]? = some (.int k (z i)) → (part e zs (i * P.cellsOf e)).run P w = .ok (.int k (z i)) w := by
    intro zs z i h
    have hrow : (isAgg e).run P w = .ok false w := by simp [isAgg, run_underlying he]
    simp [part, run_sizeOf w hj, hce, hrow, h]
  have heq : ∀ a b : Int, (Op.equalIn (d + 1) e (.int k a) (.int k b)).run P w = .ok (a == b) w := fun a b => run_equalIn_int w d e k k a b he
  rw [show d + 2 = (d + 1) + 1 from rfl]
  generalize d + 1 = m at heq ⊢
  simp only [Op.equalIn, Sem.run_bind, run_underlying hu, Result.andThen_ok, run_sizeOf w hj, hsz]
  rw [Std.Legacy.Range.forIn_eq_forIn_range']
  rw [show Std.Legacy.Range.size [0:len] = len by simp [Std.Legacy.Range.size]]
  rw [← List.range_eq_range']
  generalize hl : List.range len = l
  have hm : ∀ i ∈ l, i < len := fun i hi => by rw [← hl] at hi; exact List.mem_range.1 hi
  clear hl
  induction l with
  | nil => simp
  | cons i l ih =>
    have hi := hm i List.mem_cons_self
    simp only [List.forIn_cons, Sem.run_bind, hpart xs x i (hx i hi), hpart ys y i (hy i hi), Result.andThen_ok, heq, List.all_cons]
    cases hxy : (x i == y i) with
    | true =>
      simp only [Bool.not_true, Bool.false_eq_true, if_false, Sem.run_pure, Result.andThen_ok, Bool.true_and]
      exact ih fun i hi => hm i (List.mem_cons_of_mem _ hi)
    | false =>
      simp only [Bool.not_false, if_true, Sem.run_pure, Result.andThen_ok, Bool.false_and]
theorem all_range {n : Nat} {p : Nat → Bool} : (List.range n).all p = decide (∀ i, i < n → p i = true) := by
  rw [Bool.eq_iff_iff]; simp
/-- Are the first n the same? -/
def eqF {α : Type} [DecidableEq α] (f g : Nat → α) (n : Nat) : Bool := decide (∀ i, i < n → f i = g i)
theorem eqF_true {α : Type} [DecidableEq α] {f g : Nat → α} {n : Nat} : eqF f g n = true ↔ ∀ i, i < n → f i = g i := by simp [eqF]
theorem eqF_same {α : Type} [DecidableEq α] (f : Nat → α) (n : Nat) : eqF f f n = true := eqF_true.2 fun _ _ => rfl
theorem eqlRow {t e : TypeId} {k : IntKind} {len : Nat} (hu : P.underlying t = some (.array len e)) (he : P.underlying e = some (.int k)) (hs : (P.info? e).map (·.size) = some 1) (xs ys : Array Value) (x y : Nat → Int)
    (hx : ∀ i, i < len → xs[i]? = some (.int k (x i))) (hy : ∀ i, i < len → ys[i]? = some (.int k (y i))) (w : World) (b : Bool) (hb : b = decide (∀ i, i < len → x i = y i)) :
    (binOp .eql t (.agg xs) (.agg ys)).run P w = .ok (.bool b) w := by
  rw [run_eql_struct, equalIn_ints hu he hs xs ys x y hx hy 9998 w, all_range, hb]; simp
theorem neqRow {t e : TypeId} {k : IntKind} {len : Nat} (hu : P.underlying t = some (.array len e)) (he : P.underlying e = some (.int k)) (hs : (P.info? e).map (·.size) = some 1) (xs ys : Array Value) (x y : Nat → Int)
    (hx : ∀ i, i < len → xs[i]? = some (.int k (x i))) (hy : ∀ i, i < len → ys[i]? = some (.int k (y i))) (w : World) (b : Bool) (hb : b = decide (∀ i, i < len → x i = y i)) :
    (binOp .neq t (.agg xs) (.agg ys)).run P w = .ok (.bool (!b)) w := by
  rw [run_neq_struct, equalIn_ints hu he hs xs ys x y hx hy 9998 w, all_range, hb]; simp
theorem eqF_B (f g : Nat → UInt8) (n : Nat) : eqF f g n = decide (∀ i, i < n → bn (f i) = bn (g i)) := by
  rw [Bool.eq_iff_iff]; simp only [eqF_true, decide_eq_true_eq]
  exact ⟨fun h i hi => by rw [h i hi], fun h i hi => bn_inj (h i hi)⟩
theorem eqF_U (f g : Nat → UInt32) (n : Nat) : eqF f g n = decide (∀ i, i < n → un (f i) = un (g i)) := by
  rw [Bool.eq_iff_iff]; simp only [eqF_true, decide_eq_true_eq]
  exact ⟨fun h i hi => by rw [h i hi], fun h i hi => un_inj (h i hi)⟩
theorem eqlB {t e : TypeId} {n : Nat} (hu : P.underlying t = some (.array n e)) (he : P.underlying e = some (.int .u8)) (hs : (P.info? e).map (·.size) = some 1) (f g : Nat → UInt8) (w : World) :
    (binOp .eql t (.agg (rowB n f)) (.agg (rowB n g))).run P w = .ok (.bool (eqF f g n)) w :=
  eqlRow hu he hs _ _ (fun i => bn (f i)) (fun i => bn (g i)) (fun i hi => by rw [rowB_get, if_pos hi]) (fun i hi => by rw [rowB_get, if_pos hi]) w _ (eqF_B f g n)
theorem neqB {t e : TypeId} {n : Nat} (hu : P.underlying t = some (.array n e)) (he : P.underlying e = some (.int .u8)) (hs : (P.info? e).map (·.size) = some 1) (f g : Nat → UInt8) (w : World) :
    (binOp .neq t (.agg (rowB n f)) (.agg (rowB n g))).run P w = .ok (.bool (!eqF f g n)) w :=
  neqRow hu he hs _ _ (fun i => bn (f i)) (fun i => bn (g i)) (fun i hi => by rw [rowB_get, if_pos hi]) (fun i hi => by rw [rowB_get, if_pos hi]) w _ (eqF_B f g n)
theorem eqlU {t e : TypeId} {n : Nat} (hu : P.underlying t = some (.array n e)) (he : P.underlying e = some (.int .u32)) (hs : (P.info? e).map (·.size) = some 1) (f g : Nat → UInt32) (w : World) :
    (binOp .eql t (.agg (rowU n f)) (.agg (rowU n g))).run P w = .ok (.bool (eqF f g n)) w :=
  eqlRow hu he hs _ _ (fun i => un (f i)) (fun i => un (g i)) (fun i hi => by rw [rowU_get, if_pos hi]) (fun i hi => by rw [rowU_get, if_pos hi]) w _ (eqF_U f g n)
theorem neqU {t e : TypeId} {n : Nat} (hu : P.underlying t = some (.array n e)) (he : P.underlying e = some (.int .u32)) (hs : (P.info? e).map (·.size) = some 1) (f g : Nat → UInt32) (w : World) :
    (binOp .neq t (.agg (rowU n f)) (.agg (rowU n g))).run P w = .ok (.bool (!eqF f g n)) w :=
  neqRow hu he hs _ _ (fun i => un (f i)) (fun i => un (g i)) (fun i hi => by rw [rowU_get, if_pos hi]) (fun i hi => by rw [rowU_get, if_pos hi]) w _ (eqF_U f g n)
end
end Go.Proofs.Ytdohohafdplkiaa

/- The program's rows: how they are read and laid (disks). -/
set_option linter.unusedSimpArgs false
set_option linter.unusedVariables false
set_option maxRecDepth 20000
namespace Go.Proofs.Ytdohohafdplkiaa
open Go.RowKit
theorem info_blk : (Try.prog.info? 39).map (·.size) = some 64 := by kernel_rfl
@[go_sem] theorem load_blk (b o : Nat) (w : World) : loadRun Try.prog 39 (.pointer (some ⟨b, o, none⟩)) w = match cellsN w b o 64 with | some cs => .ok (.value (.agg cs)) w | none => loadRaw Try.prog 39 (.pointer (some ⟨b, o, none⟩)) w := loadRun_row Try.underlying39 rfl info_blk b o w
@[go_sem] theorem store_blk (b o : Nat) (vs : Array Value) (w : World) : storeRun Try.prog 39 (.pointer (some ⟨b, o, none⟩)) (.agg vs) w = if (vs.size == 64 && (cellsN w b o 64).isSome && !frozenN w b o 64 && oneCells vs) = true then .ok .skip (w.setCells b o vs.toList) else storeRaw Try.prog 39 (.pointer (some ⟨b, o, none⟩)) (.agg vs) w := storeRun_row info_blk b o vs w
theorem info_put : (Try.prog.info? 87).map (·.size) = some 65 := by kernel_rfl
@[go_sem] theorem load_put (b o : Nat) (w : World) : loadRun Try.prog 87 (.pointer (some ⟨b, o, none⟩)) w = match cellsN w b o 65 with | some cs => .ok (.value (.agg cs)) w | none => loadRaw Try.prog 87 (.pointer (some ⟨b, o, none⟩)) w := loadRun_row Try.underlying87 rfl info_put b o w
@[go_sem] theorem store_put (b o : Nat) (vs : Array Value) (w : World) : storeRun Try.prog 87 (.pointer (some ⟨b, o, none⟩)) (.agg vs) w = if (vs.size == 65 && (cellsN w b o 65).isSome && !frozenN w b o 65 && oneCells vs) = true then .ok .skip (w.setCells b o vs.toList) else storeRaw Try.prog 87 (.pointer (some ⟨b, o, none⟩)) (.agg vs) w := storeRun_row info_put b o vs w
theorem info_dk : (Try.prog.info? 70).map (·.size) = some 6 := by kernel_rfl
@[go_sem] theorem load_dk (b o : Nat) (w : World) : loadRun Try.prog 70 (.pointer (some ⟨b, o, none⟩)) w = match cellsN w b o 6 with | some cs => .ok (.value (.agg cs)) w | none => loadRaw Try.prog 70 (.pointer (some ⟨b, o, none⟩)) w := loadRun_row Try.underlying70 rfl info_dk b o w
@[go_sem] theorem store_dk (b o : Nat) (vs : Array Value) (w : World) : storeRun Try.prog 70 (.pointer (some ⟨b, o, none⟩)) (.agg vs) w = if (vs.size == 6 && (cellsN w b o 6).isSome && !frozenN w b o 6 && oneCells vs) = true then .ok .skip (w.setCells b o vs.toList) else storeRaw Try.prog 70 (.pointer (some ⟨b, o, none⟩)) (.agg vs) w := storeRun_row info_dk b o vs w
theorem info_rdk : (Try.prog.info? 32).map (·.size) = some 6 := by kernel_rfl
@[go_sem] theorem load_rdk (b o : Nat) (w : World) : loadRun Try.prog 32 (.pointer (some ⟨b, o, none⟩)) w = match cellsN w b o 6 with | some cs => .ok (.value (.agg cs)) w | none => loadRaw Try.prog 32 (.pointer (some ⟨b, o, none⟩)) w := loadRun_row Try.underlying32 rfl info_rdk b o w
@[go_sem] theorem store_rdk (b o : Nat) (vs : Array Value) (w : World) : storeRun Try.prog 32 (.pointer (some ⟨b, o, none⟩)) (.agg vs) w = if (vs.size == 6 && (cellsN w b o 6).isSome && !frozenN w b o 6 && oneCells vs) = true then .ok .skip (w.setCells b o vs.toList) else storeRaw Try.prog 32 (.pointer (some ⟨b, o, none⟩)) (.agg vs) w := storeRun_row info_rdk b o vs w
theorem info_rput : (Try.prog.info? 72).map (·.size) = some 65 := by kernel_rfl
@[go_sem] theorem load_rput (b o : Nat) (w : World) : loadRun Try.prog 72 (.pointer (some ⟨b, o, none⟩)) w = match cellsN w b o 65 with | some cs => .ok (.value (.agg cs)) w | none => loadRaw Try.prog 72 (.pointer (some ⟨b, o, none⟩)) w := loadRun_row Try.underlying72 rfl info_rput b o w
@[go_sem] theorem store_rput (b o : Nat) (vs : Array Value) (w : World) : storeRun Try.prog 72 (.pointer (some ⟨b, o, none⟩)) (.agg vs) w = if (vs.size == 65 && (cellsN w b o 65).isSome && !frozenN w b o 65 && oneCells vs) = true then .ok .skip (w.setCells b o vs.toList) else storeRaw Try.prog 72 (.pointer (some ⟨b, o, none⟩)) (.agg vs) w := storeRun_row info_rput b o vs w
theorem info_ask : (Try.prog.info? 37).map (·.size) = some 4 := by kernel_rfl
@[go_sem] theorem load_ask (b o : Nat) (w : World) : loadRun Try.prog 37 (.pointer (some ⟨b, o, none⟩)) w = match cellsN w b o 4 with | some cs => .ok (.value (.agg cs)) w | none => loadRaw Try.prog 37 (.pointer (some ⟨b, o, none⟩)) w := loadRun_row Try.underlying37 rfl info_ask b o w
@[go_sem] theorem store_ask (b o : Nat) (vs : Array Value) (w : World) : storeRun Try.prog 37 (.pointer (some ⟨b, o, none⟩)) (.agg vs) w = if (vs.size == 4 && (cellsN w b o 4).isSome && !frozenN w b o 4 && oneCells vs) = true then .ok .skip (w.setCells b o vs.toList) else storeRaw Try.prog 37 (.pointer (some ⟨b, o, none⟩)) (.agg vs) w := storeRun_row info_ask b o vs w
theorem info_nine : (Try.prog.info? 48).map (·.size) = some 576 := by kernel_rfl
@[go_sem] theorem load_nine (b o : Nat) (w : World) : loadRun Try.prog 48 (.pointer (some ⟨b, o, none⟩)) w = match cellsN w b o 576 with | some cs => .ok (.value (.agg cs)) w | none => loadRaw Try.prog 48 (.pointer (some ⟨b, o, none⟩)) w := loadRun_row Try.underlying48 rfl info_nine b o w
@[go_sem] theorem store_nine (b o : Nat) (vs : Array Value) (w : World) : storeRun Try.prog 48 (.pointer (some ⟨b, o, none⟩)) (.agg vs) w = if (vs.size == 576 && (cellsN w b o 576).isSome && !frozenN w b o 576 && oneCells vs) = true then .ok .skip (w.setCells b o vs.toList) else storeRaw Try.prog 48 (.pointer (some ⟨b, o, none⟩)) (.agg vs) w := storeRun_row info_nine b o vs w
theorem copyinfo_blk : (Try.prog.info? 39).map (·.size) = some 64 := by kernel_rfl
@[go_sem] theorem copy_blk (ty sT b o b' o' n c n' c' : Nat) (w : World) : copyRun Try.prog #[29, sT] ty (.slice (some ⟨b, o, none⟩) n c) (.slice (some ⟨b', o', none⟩) n' c') w =
      match cellsN w b' o' (min n' n * 64) with
      | some cs => if ((cellsN w b o (min n' n * 64)).isSome && !frozenN w b o (min n' n * 64) && oneCells cs) = true then .ok (.value (.int .i64 (min n' n : Nat))) (w.setCells b o cs.toList)
        else copyRaw Try.prog #[29, sT] ty (.slice (some ⟨b, o, none⟩) n c) (.slice (some ⟨b', o', none⟩) n' c') w
      | none => copyRaw Try.prog #[29, sT] ty (.slice (some ⟨b, o, none⟩) n c) (.slice (some ⟨b', o', none⟩) n' c') w := copyRun_wide Try.underlying29 copyinfo_blk ty b o b' o' n c n' c' w
@[go_sem high] theorem eql_blk (f g : Nat → UInt8) (w : World) : (binOp .eql 39 (.agg (rowB 64 f)) (.agg (rowB 64 g))).run Try.prog w = .ok (.bool (eqF f g 64)) w := eqlB Try.underlying39 Try.underlying5 (by kernel_rfl) f g w
@[go_sem high] theorem neq_blk (f g : Nat → UInt8) (w : World) : (binOp .neq 39 (.agg (rowB 64 f)) (.agg (rowB 64 g))).run Try.prog w = .ok (.bool (!eqF f g 64)) w := neqB Try.underlying39 Try.underlying5 (by kernel_rfl) f g w
@[go_sem] theorem zagg_B64 : Value.agg #[.int .u8 0, .int .u8 0, .int .u8 0, .int .u8 0, .int .u8 0, .int .u8 0, .int .u8 0, .int .u8 0, .int .u8 0, .int .u8 0, .int .u8 0, .int .u8 0, .int .u8 0, .int .u8 0, .int .u8 0, .int .u8 0, .int .u8 0, .int .u8 0, .int .u8 0, .int .u8 0, .int .u8 0, .int .u8 0, .int .u8 0, .int .u8 0, .int .u8 0, .int .u8 0, .int .u8 0, .int .u8 0, .int .u8 0, .int .u8 0, .int .u8 0, .int .u8 0, .int .u8 0, .int .u8 0, .int .u8 0, .int .u8 0, .int .u8 0, .int .u8 0, .int .u8 0, .int .u8 0, .int .u8 0, .int .u8 0, .int .u8 0, .int .u8 0, .int .u8 0, .int .u8 0, .int .u8 0, .int .u8 0, .int .u8 0, .int .u8 0, .int .u8 0, .int .u8 0, .int .u8 0, .int .u8 0, .int .u8 0, .int .u8 0, .int .u8 0, .int .u8 0, .int .u8 0, .int .u8 0, .int .u8 0, .int .u8 0, .int .u8 0, .int .u8 0] = .agg (rowB 64 (fun _ => 0)) := rfl
/-- A write's zero value. (The loader names the zero values of wide types in great programs only.) -/
def zPut : Array Value := #[.int .i64 0] ++ rowB 64 fun _ => 0
@[go_sem] theorem zPut_size : zPut.size = 65 := by simp [zPut]
@[go_sem] theorem zPut_ne : (zPut = #[]) = False := eq_false fun h => by have := zPut_size; rw [h] at this; cases this
@[go_sem high] theorem zv_put (w : World) : (zeroValue 87).run Try.prog w = .ok (.agg zPut) w := by kernel_rfl
@[go_sem high] theorem zv_nine (w : World) : (zeroValue 48).run Try.prog w = .ok (.agg (rowB 576 fun _ => 0)) w := by kernel_rfl
end Go.Proofs.Ytdohohafdplkiaa
