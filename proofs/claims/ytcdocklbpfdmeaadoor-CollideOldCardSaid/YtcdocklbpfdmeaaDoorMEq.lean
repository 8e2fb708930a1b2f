import Derived.Test.YtcdocklbpfdmeaaDoorMWords

/- Arrays of numbers that are held against one another. Over whatever program. -/
set_option linter.unusedSimpArgs false
set_option linter.unusedVariables false
set_option maxRecDepth 20000
namespace Go.Proofs.YtcdocklbpfdmeaaDoor
open Go.RowKit
section
variable {P : Program}
theorem equalIn_ints {t e : TypeId} {k : IntKind} {len : Nat} (hu : P.underlying t = some (.array len e)) (he : P.underlying e = some (.int k)) (hs : (P.info? e).map (·.size) = some 1) (xs ys : Array Value) (x y : Nat → Int)
    (hx : ∀ i, i < len → xs[i]? = some (.int k (x i))) (hy : ∀ i, i < len → ys[i]? = some (.int k (y i))) (d : Nat) (w : World) :
    (Op.equalIn (d + 2) t (.agg xs) (.agg ys)).run P w = .ok ((List.range len).all fun i => x i == y i) w := by
  obtain ⟨j, hj, hsz⟩ : ∃ j, P.info? e = some j ∧ j.size = 1 := by
    cases hq : P.info? e with
    | none => rw [hq] at hs; cases hs
    | some i => exact ⟨i, rfl, by rw [hq] at hs; simpa using hs⟩
  have hce : P.cellsOf e = 1 := by simp [Program.cellsOf, hj, hsz]
  have hpart : ∀ (zs : Array Value) (z : Nat → Int) (i : Nat), zs[i]? = some (.int k (z i)) → (part e zs (i * P.cellsOf e)).run P w = .ok (.int k (z i)) w := by
    intro zs z i h
    have hrow : (isAgg e).run P w = .ok false w := by simp [isAgg, run_underlying he]
    simp [part, run_sizeOf w hj, hce, hrow, h]
  have heq : ∀ a b : Int, (Op.equalIn (d + 1) e (.int k a) (.int k b)).run P w = .ok (a == b) w := fun a b => run_equalIn_int w d e k k a b he
  rw [show d + 2 = (d + 1) + 1 from rfl]
  generalize d + 1 = m at heq ⊢
  simp only [Op.equalIn, Sem.run_bind, run_underlying hu, Result.andThen_ok, run_sizeOf w hj, hsz]
  rw [Std.Legacy.Range.forIn_eq_forIn_range']
  rw [show Std.Legacy.Range.size [0:len] = len by simp [Std.Legacy.Range.size]]
  rw [← List.range_eq_range']
  generalize hl : List.range len = l
  have hm : ∀ i ∈ l, i < len := fun i hi => by rw [← hl] at hi; exact List.mem_range.1 hi
  clear hl
  induction l with
  | nil => simp
  | cons i l ih =>
    have hi := hm i List.mem_cons_self
    simp only [List.forIn_cons, Sem.run_bind, hpart xs x i (hx i hi), hpart ys y i (hy i hi), Result.andThen_ok, heq, List.all_cons]
    cases hxy : (x i == y i) with
    | true =>
      simp only [Bool.not_true, Bool.false_eq_true, if_false, Sem.run_pure, Result.andThen_ok, Bool.true_and]
      exact ih fun i hi => hm i (List.mem_cons_of_mem _ hi)
    | false =>
      simp only [Bool.not_false, if_true, Sem.run_pure, Result.andThen_ok, Bool.false_and]
theorem all_range {n : Nat} {p : Nat → Bool} : (List.range n).all p = decide (∀ i, i < n → p i = true) := by
  rw [Bool.eq_iff_iff]; simp
/-- Are the first n the same? -/
def eqF {α : Type} [DecidableEq α] (f g : Nat → α) (n : Nat) : Bool := decide (∀ i, i < n → f i = g i)
theorem eqF_true {α : Type} [DecidableEq α] {f g : Nat → α} {n : Nat} : eqF f g n = true ↔ ∀ i, i < n → f i = g i := by simp [eqF]
theorem eqF_same {α : Type} [DecidableEq α] (f : Nat → α) (n : Nat) : eqF f f n = true := eqF_true.2 fun _ _ => rfl
theorem eqlRow {t e : TypeId} {k : IntKind} {len : Nat} (hu : P.underlying t = some (.array len e)) (he : P.underlying e = some (.int k)) (hs : (P.info? e).map (·.size) = some 1) (xs ys : Array Value) (x y : Nat → Int)
    (hx : ∀ i, i < len → xs[i]? = some (.int k (x i))) (hy : ∀ i, i < len → ys[i]? = some (.int k (y i))) (w : World) (b : Bool) (hb : b = decide (∀ i, i < len → x i = y i)) :
    (binOp .eql t (.agg xs) (.agg ys)).run P w = .ok (.bool b) w := by
  rw [run_eql_struct, equalIn_ints hu he hs xs ys x y hx hy 9998 w, all_range, hb]; simp
theorem neqRow {t e : TypeId} {k : IntKind} {len : Nat} (hu : P.underlying t = some (.array len e)) (he : P.underlying e = some (.int k)) (hs : (P.info? e).map (·.size) = some 1) (xs ys : Array Value) (x y : Nat → Int)
    (hx : ∀ i, i < len → xs[i]? = some (.int k (x i))) (hy : ∀ i, i < len → ys[i]? = some (.int k (y i))) (w : World) (b : Bool) (hb : b = decide (∀ i, i < len → x i = y i)) :
    (binOp .neq t (.agg xs) (.agg ys)).run P w = .ok (.bool (!b)) w := by
  rw [run_neq_struct, equalIn_ints hu he hs xs ys x y hx hy 9998 w, all_range, hb]; simp
theorem eqF_B (f g : Nat → UInt8) (n : Nat) : eqF f g n = decide (∀ i, i < n → bn (f i) = bn (g i)) := by
  rw [Bool.eq_iff_iff]; simp only [eqF_true, decide_eq_true_eq]
  exact ⟨fun h i hi => by rw [h i hi], fun h i hi => bn_inj (h i hi)⟩
theorem eqF_U (f g : Nat → UInt32) (n : Nat) : eqF f g n = decide (∀ i, i < n → un (f i) = un (g i)) := by
  rw [Bool.eq_iff_iff]; simp only [eqF_true, decide_eq_true_eq]
  exact ⟨fun h i hi => by rw [h i hi], fun h i hi => un_inj (h i hi)⟩
theorem eqlB {t e : TypeId} {n : Nat} (hu : P.underlying t = some (.array n e)) (he : P.underlying e = some (.int .u8)) (hs : (P.info? e).map (·.size) = some 1) (f g : Nat → UInt8) (w : World) :
    (binOp .eql t (.agg (rowB n f)) (.agg (rowB n g))).run P w = .ok (.bool (eqF f g n)) w :=
  eqlRow hu he hs _ _ (fun i => bn (f i)) (fun i => bn (g i)) (fun i hi => by rw [rowB_get, if_pos hi]) (fun i hi => by rw [rowB_get, if_pos hi]) w _ (eqF_B f g n)
theorem neqB {t e : TypeId} {n : Nat} (hu : P.underlying t = some (.array n e)) (he : P.underlying e = some (.int .u8)) (hs : (P.info? e).map (·.size) = some 1) (f g : Nat → UInt8) (w : World) :
    (binOp .neq t (.agg (rowB n f)) (.agg (rowB n g))).run P w = .ok (.bool (!eqF f g n)) w :=
  neqRow hu he hs _ _ (fun i => bn (f i)) (fun i => bn (g i)) (fun i hi => by rw [rowB_get, if_pos hi]) (fun i hi => by rw [rowB_get, if_pos hi]) w _ (eqF_B f g n)
theorem eqlU {t e : TypeId} {n : Nat} (hu : P.underlying t = some (.array n e)) (he : P.underlying e = some (.int .u32)) (hs : (P.info? e).map (·.size) = some 1) (f g : Nat → UInt32) (w : World) :
    (binOp .eql t (.agg (rowU n f)) (.agg (rowU n g))).run P w = .ok (.bool (eqF f g n)) w :=
  eqlRow hu he hs _ _ (fun i => un (f i)) (fun i => un (g i)) (fun i hi => by rw [rowU_get, if_pos hi]) (fun i hi => by rw [rowU_get, if_pos hi]) w _ (eqF_U f g n)
theorem neqU {t e : TypeId} {n : Nat} (hu : P.underlying t = some (.array n e)) (he : P.underlying e = some (.int .u32)) (hs : (P.info? e).map (·.size) = some 1) (f g : Nat → UInt32) (w : World) :
    (binOp .neq t (.agg (rowU n f)) (.agg (rowU n g))).run P w = .ok (.bool (!eqF f g n)) w :=
  neqRow hu he hs _ _ (fun i => un (f i)) (fun i => un (g i)) (fun i hi => by rw [rowU_get, if_pos hi]) (fun i hi => by rw [rowU_get, if_pos hi]) w _ (eqF_U f g n)
end
end Go.Proofs.YtcdocklbpfdmeaaDoor
