import Derived.Test.YtcdocklbpfdmeaaDoorMVer

/- Are pairs the same? -/
set_option linter.unusedSimpArgs false
set_option linter.unusedVariables false
set_option maxRecDepth 20000
namespace Go.Proofs.YtcdocklbpfdmeaaDoor
open Go.RowKit
theorem beqS (a b : ByteArray) : (a == b) = decide (a = b) := by
  rw [Bool.eq_iff_iff]
  cases a with | mk x =>
  cases b with | mk y =>
  have h : ((⟨x⟩ : ByteArray) == ⟨y⟩) = (x == y) := rfl
  rw [h]
  simp
theorem eqIn_str (d : Nat) (a b : ByteArray) (w : World) : (Op.equalIn (d + 1) 9 (.string a) (.string b)).run Tryd.prog w = .ok (a == b) w := by
  unfold Op.equalIn
  simp [run_underlying Tryd.underlying9]
theorem part_str (zs : Array Value) (i : Nat) (s : ByteArray) (h : zs[i]? = some (.string s)) (w : World) : (part 9 zs i).run Tryd.prog w = .ok (.string s) w := by
  obtain ⟨j, hj, hs⟩ : ∃ j, Tryd.prog.info? 9 = some j ∧ j.size = 1 := by
    have hi : (Tryd.prog.info? 9).map (·.size) = some 1 := by kernel_rfl
    obtain ⟨j, h1, h2⟩ := Option.map_eq_some_iff.1 hi
    exact ⟨j, h1, h2⟩
  have hrow : (isAgg 9).run Tryd.prog w = .ok false w := by simp [isAgg, run_underlying Tryd.underlying9]
  have hce : Tryd.prog.cellsOf 9 = 1 := by unfold Program.cellsOf; rw [hj]; simp [hs]
  simp [part, run_sizeOf w hj, hce, hrow, h]
theorem eqIn_cell (a b c d : ByteArray) (w : World) : (Op.equal 42 (.agg #[.string a, .string b]) (.agg #[.string c, .string d])).run Tryd.prog w = .ok ((a == c) && (b == d)) w := by
  unfold Op.equal Op.maxDepth
  unfold Op.equalIn
  have hst : Tryd.prog.stoodInHeld 42 = false := by kernel_rfl
  have p0 : ∀ (x y : ByteArray) (w : World), (part 9 #[.string x, .string y] 0).run Tryd.prog w = .ok (.string x) w := fun x y w => part_str _ _ _ rfl w
  have p1 : ∀ (x y : ByteArray) (w : World), (part 9 #[.string x, .string y] 1).run Tryd.prog w = .ok (.string y) w := fun x y w => part_str _ _ _ rfl w
  have e0 : ∀ (x y : ByteArray) (w : World), (Op.equalIn 9999 9 (.string x) (.string y)).run Tryd.prog w = .ok (x == y) w := fun x y w => eqIn_str 9998 x y w
  simp [run_underlying Tryd.underlying42, hst, p0, p1, e0]
  cases (a == c) <;> cases (b == d) <;> simp
@[go_sem high] theorem eql_cell (a b c d : ByteArray) (w : World) : (binOp .eql 42 (.agg #[.string a, .string b]) (.agg #[.string c, .string d])).run Tryd.prog w = .ok (.bool ((a == c) && (b == d))) w := by
  rw [run_eql_struct]
  have := eqIn_cell a b c d w
  unfold Op.equal Op.maxDepth at this
  rw [this]
  rfl
@[go_sem high] theorem neq_cell (a b c d : ByteArray) (w : World) : (binOp .neq 42 (.agg #[.string a, .string b]) (.agg #[.string c, .string d])).run Tryd.prog w = .ok (.bool (!((a == c) && (b == d)))) w := by
  rw [run_neq_struct]
  have := eqIn_cell a b c d w
  unfold Op.equal Op.maxDepth at this
  rw [this]
  rfl
theorem pr_ext {l m : List Pr} (hl : l.length = m.length) (h : ∀ i, i < l.length → prAt l i = prAt m i) : l = m := by
  apply List.ext_getElem?
  intro i
  by_cases hi : i < l.length
  · rw [prAt_get hi, prAt_get (by omega), h i hi]
  · rw [List.getElem?_eq_none (by omega), List.getElem?_eq_none (by omega)]
end Go.Proofs.YtcdocklbpfdmeaaDoor
