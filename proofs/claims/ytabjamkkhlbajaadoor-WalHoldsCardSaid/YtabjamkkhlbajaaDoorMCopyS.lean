import Derived.Test.YtabjamkkhlbajaaDoorMOwn
import Derived.Laws.IdiomCopy
import Derived.Test.YtabjamkkhlbajaaDoorMMem
import Derived.Test.YtabjamkkhlbajaaDoorChecked

/- copy of elements of more than one cell; make of such. Over whatever program. -/
set_option linter.unusedSimpArgs false
set_option linter.unusedVariables false
set_option linter.unnecessarySimpa false
set_option maxRecDepth 20000
namespace Go.Proofs.YtabjamkkhlbajaaDoor
open Go.RowKit
theorem run_copy_wide {P : Program} (w : World) (dT sT ty elem : TypeId) (b o dLen dCap s : Nat) (a : Addr) (sLen sCap : Nat) (cs : List Value)
    (hu : P.underlying dT = some (.slice elem)) (hs : (P.info? elem).map (·.size) = some s) (hn : cs.length = Nat.min sLen dLen * s)
    (hsrc : ∀ j v, cs[j]? = some v → w.cell? (a.add j) = some v) (hc : ∀ j, j < cs.length → (w.cell? ⟨b, o + j, none⟩).isSome = true) (hf : ∀ j, j < cs.length → w.frozen? ⟨b, o + j, none⟩ = false) (h1 : ∀ v ∈ cs, v.oneCell' = true) :
    (Builtin.copy_ #[dT, sT] ty #[.slice (some ⟨b, o, none⟩) dLen dCap, .slice (some a) sLen sCap]).run P w = .ok (goInt (Nat.min sLen dLen)) (w.setCells b o cs) := by
  have hl := run_loadCells_list (P := P) w a cs hsrc
  have hst := run_storeCells_cells (P := P) b o cs 0 w (by simpa using hc) (by simpa using hf) h1
  cases hq : P.info? elem with
  | none => simp [hq] at hs
  | some i =>
    have hi : i.size = s := by simpa [hq] using hs
    rw [hn] at hl
    simp [Builtin.copy_, run_underlying hu, Builtin.lenOf, Builtin.firstCells, sizeOf, typeInfo, hq, hi, hl, hst]
theorem copyRun_wide {P : Program} {dT sT elem : TypeId} {s : Nat} (hu : P.underlying dT = some (.slice elem)) (hs : (P.info? elem).map (·.size) = some s) (ty : TypeId) (b o b' o' n c n' c' : Nat) (w : World) :
    copyRun P #[dT, sT] ty (.slice (some ⟨b, o, none⟩) n c) (.slice (some ⟨b', o', none⟩) n' c') w =
      match cellsN w b' o' (min n' n * s) with
      | some cs => if ((cellsN w b o (min n' n * s)).isSome && !frozenN w b o (min n' n * s) && oneCells cs) = true then .ok (.value (.int .i64 (min n' n : Nat))) (w.setCells b o cs.toList)
        else copyRaw P #[dT, sT] ty (.slice (some ⟨b, o, none⟩) n c) (.slice (some ⟨b', o', none⟩) n' c') w
      | none => copyRaw P #[dT, sT] ty (.slice (some ⟨b, o, none⟩) n c) (.slice (some ⟨b', o', none⟩) n' c') w := by
  cases hc : cellsN w b' o' (min n' n * s) with
  | none => rfl
  | some cs =>
    simp only
    split
    · rename_i h
      simp only [Bool.and_eq_true, Bool.not_eq_true'] at h
      obtain ⟨⟨h1, h2⟩, h3⟩ := h
      obtain ⟨ds, hds⟩ := Option.isSome_iff_exists.1 h1
      obtain ⟨h4, h5⟩ := cellsN_some.1 hds
      obtain ⟨h6, h7⟩ := cellsN_some.1 hc
      have := run_copy_wide (P := P) w dT sT ty elem b o n c s ⟨b', o', none⟩ n' c' cs.toList hu hs (by rw [Array.length_toList, h6])
        (fun j v hv => by rw [Addr.add_mid]; exact cellsN_range hc j v hv)
        (fun j hj => by rw [Array.length_toList, h6] at hj; rw [h5 j hj, Array.getElem?_eq_getElem (by omega)]; rfl)
        (fun j hj => by rw [Array.length_toList, h6] at hj; exact frozenN_false.1 h2 j hj)
        (fun v hv => (Array.all_eq_true_iff_forall_mem.1 h3) v (by simpa using hv))
      unfold copyRun
      rw [this]; rfl
    · rfl
/-- n elements that are made. -/
theorem manyC_flat {α : Type} {K : α → List Value} {s : Nat} (hK : ∀ a, (K a).length = s) (hs : 0 < s) {z : Value} {a : α} (hz : z.cells.toList = K a) (n : Nat) : (manyC z (n * s)).toList = (List.replicate n a).flatMap K := by
  have hzs : z.cells.size = s := by rw [← Array.length_toList, hz, hK]
  apply List.ext_getElem?
  intro j
  by_cases hj : j < n * s
  · have hq0 : j = j / s * s + j % s := by rw [Nat.mul_comm]; exact (Nat.div_add_mod j s).symm
    have hqs := Nat.mod_lt j hs
    have hql : j / s < n := (Nat.div_lt_iff_lt_mul hs).2 hj
    have h1 := flat_get hK (List.replicate n a) (j / s) a (j % s) (by simp [hql]) hqs
    rw [← hq0] at h1
    rw [h1, ← hz, Array.getElem?_toList, Array.getElem?_toList]
    simp only [manyC, madeCells, Array.getElem?_map, Array.getElem?_range, if_pos hj, Option.map_some, hzs]
    rw [Array.getElem!_eq_getD, Array.getD_eq_getD_getElem?, Array.getElem?_eq_getElem (by rw [hzs]; exact hqs)]
    rfl
  · rw [List.getElem?_eq_none (by rw [Array.length_toList, manyC_size]; omega), List.getElem?_eq_none (by rw [flat_len hK, List.length_replicate]; omega)]
end Go.Proofs.YtabjamkkhlbajaaDoor

/- The program's rows: how they are read and laid (disks). -/
set_option linter.unusedSimpArgs false
set_option linter.unusedVariables false
set_option maxRecDepth 20000
namespace Go.Proofs.YtabjamkkhlbajaaDoor
open Go.RowKit
theorem info_blk : (Tryd.prog.info? 75).map (·.size) = some 64 := by kernel_rfl
@[go_sem] theorem load_blk (b o : Nat) (w : World) : loadRun Tryd.prog 75 (.pointer (some ⟨b, o, none⟩)) w = match cellsN w b o 64 with | some cs => .ok (.value (.agg cs)) w | none => loadRaw Tryd.prog 75 (.pointer (some ⟨b, o, none⟩)) w := loadRun_row Tryd.underlying75 rfl info_blk b o w
@[go_sem] theorem store_blk (b o : Nat) (vs : Array Value) (w : World) : storeRun Tryd.prog 75 (.pointer (some ⟨b, o, none⟩)) (.agg vs) w = if (vs.size == 64 && (cellsN w b o 64).isSome && !frozenN w b o 64 && oneCells vs) = true then .ok .skip (w.setCells b o vs.toList) else storeRaw Tryd.prog 75 (.pointer (some ⟨b, o, none⟩)) (.agg vs) w := storeRun_row info_blk b o vs w
theorem info_put : (Tryd.prog.info? 113).map (·.size) = some 65 := by kernel_rfl
@[go_sem] theorem load_put (b o : Nat) (w : World) : loadRun Tryd.prog 113 (.pointer (some ⟨b, o, none⟩)) w = match cellsN w b o 65 with | some cs => .ok (.value (.agg cs)) w | none => loadRaw Tryd.prog 113 (.pointer (some ⟨b, o, none⟩)) w := loadRun_row Tryd.underlying113 rfl info_put b o w
@[go_sem] theorem store_put (b o : Nat) (vs : Array Value) (w : World) : storeRun Tryd.prog 113 (.pointer (some ⟨b, o, none⟩)) (.agg vs) w = if (vs.size == 65 && (cellsN w b o 65).isSome && !frozenN w b o 65 && oneCells vs) = true then .ok .skip (w.setCells b o vs.toList) else storeRaw Tryd.prog 113 (.pointer (some ⟨b, o, none⟩)) (.agg vs) w := storeRun_row info_put b o vs w
theorem info_dk : (Tryd.prog.info? 89).map (·.size) = some 6 := by kernel_rfl
@[go_sem] theorem load_dk (b o : Nat) (w : World) : loadRun Tryd.prog 89 (.pointer (some ⟨b, o, none⟩)) w = match cellsN w b o 6 with | some cs => .ok (.value (.agg cs)) w | none => loadRaw Tryd.prog 89 (.pointer (some ⟨b, o, none⟩)) w := loadRun_row Tryd.underlying89 rfl info_dk b o w
@[go_sem] theorem store_dk (b o : Nat) (vs : Array Value) (w : World) : storeRun Tryd.prog 89 (.pointer (some ⟨b, o, none⟩)) (.agg vs) w = if (vs.size == 6 && (cellsN w b o 6).isSome && !frozenN w b o 6 && oneCells vs) = true then .ok .skip (w.setCells b o vs.toList) else storeRaw Tryd.prog 89 (.pointer (some ⟨b, o, none⟩)) (.agg vs) w := storeRun_row info_dk b o vs w
theorem copyinfo_blk : (Tryd.prog.info? 75).map (·.size) = some 64 := by kernel_rfl
@[go_sem] theorem copy_blk (ty sT b o b' o' n c n' c' : Nat) (w : World) : copyRun Tryd.prog #[69, sT] ty (.slice (some ⟨b, o, none⟩) n c) (.slice (some ⟨b', o', none⟩) n' c') w =
      match cellsN w b' o' (min n' n * 64) with
      | some cs => if ((cellsN w b o (min n' n * 64)).isSome && !frozenN w b o (min n' n * 64) && oneCells cs) = true then .ok (.value (.int .i64 (min n' n : Nat))) (w.setCells b o cs.toList)
        else copyRaw Tryd.prog #[69, sT] ty (.slice (some ⟨b, o, none⟩) n c) (.slice (some ⟨b', o', none⟩) n' c') w
      | none => copyRaw Tryd.prog #[69, sT] ty (.slice (some ⟨b, o, none⟩) n c) (.slice (some ⟨b', o', none⟩) n' c') w := copyRun_wide Tryd.underlying69 copyinfo_blk ty b o b' o' n c n' c' w
@[go_sem high] theorem eql_blk (f g : Nat → UInt8) (w : World) : (binOp .eql 75 (.agg (rowB 64 f)) (.agg (rowB 64 g))).run Tryd.prog w = .ok (.bool (eqF f g 64)) w := eqlB Tryd.underlying75 Tryd.underlying5 (by kernel_rfl) f g w
@[go_sem high] theorem neq_blk (f g : Nat → UInt8) (w : World) : (binOp .neq 75 (.agg (rowB 64 f)) (.agg (rowB 64 g))).run Tryd.prog w = .ok (.bool (!eqF f g 64)) w := neqB Tryd.underlying75 Tryd.underlying5 (by kernel_rfl) f g w
@[go_sem] theorem zagg_B64 : Value.agg #[.int .u8 0, .int .u8 0, .int .u8 0, .int .u8 0, .int .u8 0, .int .u8 0, .int .u8 0, .int .u8 0, .int .u8 0, .int .u8 0, .int .u8 0, .int .u8 0, .int .u8 0, .int .u8 0, .int .u8 0, .int .u8 0, .int .u8 0, .int .u8 0, .int .u8 0, .int .u8 0, .int .u8 0, .int .u8 0, .int .u8 0, .int .u8 0, .int .u8 0, .int .u8 0, .int .u8 0, .int .u8 0, .int .u8 0, .int .u8 0, .int .u8 0, .int .u8 0, .int .u8 0, .int .u8 0, .int .u8 0, .int .u8 0, .int .u8 0, .int .u8 0, .int .u8 0, .int .u8 0, .int .u8 0, .int .u8 0, .int .u8 0, .int .u8 0, .int .u8 0, .int .u8 0, .int .u8 0, .int .u8 0, .int .u8 0, .int .u8 0, .int .u8 0, .int .u8 0, .int .u8 0, .int .u8 0, .int .u8 0, .int .u8 0, .int .u8 0, .int .u8 0, .int .u8 0, .int .u8 0, .int .u8 0, .int .u8 0, .int .u8 0, .int .u8 0] = .agg (rowB 64 (fun _ => 0)) := rfl
/-- A write's zero value. (The loader names the zero values of wide types in great programs only.) -/
def zPut : Array Value := #[.int .i64 0] ++ rowB 64 fun _ => 0
@[go_sem] theorem zPut_size : zPut.size = 65 := by simp [zPut]
@[go_sem] theorem zPut_ne : (zPut = #[]) = False := eq_false fun h => by have := zPut_size; rw [h] at this; cases this
@[go_sem high] theorem zv_put (w : World) : (zeroValue 113).run Tryd.prog w = .ok (.agg zPut) w := by kernel_rfl
end Go.Proofs.YtabjamkkhlbajaaDoor
