import Derived.Test.YtdohohafdplkiaaMDkFa

/- Rows of rows that are held against one another; a disk beside a block that is kept. -/
set_option linter.unusedSimpArgs false
set_option linter.unusedVariables false
set_option maxRecDepth 20000
namespace Go.Proofs.Ytdohohafdplkiaa
open Go.RowKit
section
variable {P : Program}
theorem rowB_extr (N : Nat) (f : Nat → UInt8) (o n : Nat) (h : o + n ≤ N) : (rowB N f).extract o (o + n) = rowB n fun j => f (o + j) := by
  apply Array.ext_getElem?
  intro j
  rw [Array.getElem?_extract, rowB_get, rowB_get, rowB_size]
  by_cases hj : j < n
  · rw [if_pos (by omega), if_pos (by omega), if_pos hj]
  · rw [if_neg (by omega), if_neg hj]
theorem equalIn_rows {t e b : TypeId} {m n : Nat} (hu : P.underlying t = some (.array m e)) (he : P.underlying e = some (.array n b)) (hb : P.underlying b = some (.int .u8)) (hs : (P.info? e).map (·.size) = some n) (hsb : (P.info? b).map (·.size) = some 1) (f g : Nat → UInt8) (d : Nat) (w : World) :
    (Op.equalIn (d + 3) t (.agg (rowB (m * n) f)) (.agg (rowB (m * n) g))).run P w = .ok (eqF f g (m * n)) w := by
  obtain ⟨j, hj, hsz⟩ : ∃ j, P.info? e = some j ∧ j.size = n := by
    cases hq : P.info? e with
    | none => rw [hq] at hs; cases hs
    | some i => exact ⟨i, rfl, by rw [hq] at hs; simpa using hs⟩
  have hce : P.cellsOf e = n := by simp [Program.cellsOf, hj, hsz]
  have hin : ∀ i, i < m → i * n + n ≤ m * n := fun i hi => by rw [← Nat.succ_mul]; exact Nat.mul_le_mul_right n hi
  have hpart : ∀ (z : Nat → UInt8) (i : Nat), i < m → (part e (rowB (m * n) z) (i * P.cellsOf e)).run P w = .ok (.agg (rowB n fun k => z (i * n + k))) w := by
    intro z i hi
    have hrow : (isAgg e).run P w = .ok true w := by simp [isAgg, run_underlying he]
    have := rowB_extr (m * n) z (i * n) n (hin i hi)
    simp [part, run_sizeOf w hj, hce, hrow, this]
  have heq : ∀ x y : Nat → UInt8, (Op.equalIn (d + 2) e (.agg (rowB n x)) (.agg (rowB n y))).run P w = .ok (eqF x y n) w := fun x y => by
    rw [equalIn_ints he hb hsb (rowB n x) (rowB n y) (fun i => bn (x i)) (fun i => bn (y i)) (fun i hi => by rw [rowB_get, if_pos hi]) (fun i hi => by rw [rowB_get, if_pos hi]) d w, all_range, eqF_B]
    simp
  have hall : eqF f g (m * n) = (List.range m).all fun i => eqF (fun k => f (i * n + k)) (fun k => g (i * n + k)) n := by
    rw [Bool.eq_iff_iff, eqF_true, List.all_eq_true]
    constructor
    · intro h i hi
      rw [eqF_true]
      intro k hk
      have := hin i (List.mem_range.1 hi)
      exact h _ (by omega)
    · intro h k hk
      have hn : 0 < n := Nat.pos_of_ne_zero fun e => by rw [e] at hk; simp at hk
      have hi : k / n < m := (Nat.div_lt_iff_lt_mul hn).2 hk
      have h1 := eqF_true.1 (h _ (List.mem_range.2 hi)) (k % n) (Nat.mod_lt _ hn)
      have h2 : k / n * n + k % n = k := by rw [Nat.mul_comm]; exact Nat.div_add_mod k n
      simp only [h2] at h1
      exact h1
  rw [hall, show d + 3 = (d + 2) + 1 from rfl]
  generalize d + 2 = q at heq ⊢
  simp only [Op.equalIn, Sem.run_bind, run_underlying hu, Result.andThen_ok, run_sizeOf w hj, hsz]
  rw [Std.Legacy.Range.forIn_eq_forIn_range']
  rw [show Std.Legacy.Range.size [0:m] = m by simp [Std.Legacy.Range.size]]
  rw [← List.range_eq_range']
  generalize hl : List.range m = l
  have hm : ∀ i ∈ l, i < m := fun i hi => by rw [← hl] at hi; exact List.mem_range.1 hi
  clear hl hall
  induction l with
  | nil => simp
  | cons i l ih =>
    have hi := hm i List.mem_cons_self
    simp only [List.forIn_cons, Sem.run_bind, hpart f i hi, hpart g i hi, Result.andThen_ok, heq, List.all_cons]
    cases hxy : eqF (fun k => f (i * n + k)) (fun k => g (i * n + k)) n with
    | true =>
      simp only [Bool.not_true, Bool.false_eq_true, if_false, Sem.run_pure, Result.andThen_ok, Bool.true_and]
      exact ih fun i hi => hm i (List.mem_cons_of_mem _ hi)
    | false =>
      simp only [Bool.not_false, if_true, Sem.run_pure, Result.andThen_ok, Bool.false_and]
theorem neqRows {t e b : TypeId} {m n : Nat} (hu : P.underlying t = some (.array m e)) (he : P.underlying e = some (.array n b)) (hb : P.underlying b = some (.int .u8)) (hs : (P.info? e).map (·.size) = some n) (hsb : (P.info? b).map (·.size) = some 1) (f g : Nat → UInt8) (w : World) :
    (binOp .neq t (.agg (rowB (m * n) f)) (.agg (rowB (m * n) g))).run P w = .ok (.bool (!eqF f g (m * n))) w := by
  rw [run_neq_struct, equalIn_rows hu he hb hs hsb f g 9997 w]; simp
theorem eqlRows {t e b : TypeId} {m n : Nat} (hu : P.underlying t = some (.array m e)) (he : P.underlying e = some (.array n b)) (hb : P.underlying b = some (.int .u8)) (hs : (P.info? e).map (·.size) = some n) (hsb : (P.info? b).map (·.size) = some 1) (f g : Nat → UInt8) (w : World) :
    (binOp .eql t (.agg (rowB (m * n) f)) (.agg (rowB (m * n) g))).run P w = .ok (.bool (eqF f g (m * n))) w := by
  rw [run_eql_struct, equalIn_rows hu he hb hs hsb f g 9997 w]; simp
end
@[go_sem high] theorem neq_nine (f g : Nat → UInt8) (w : World) : (binOp .neq 48 (.agg (rowB 576 f)) (.agg (rowB 576 g))).run Try.prog w = .ok (.bool (!eqF f g 576)) w :=
  neqRows (m := 9) (n := 64) Try.underlying48 Try.underlying39 Try.underlying5 (by kernel_rfl) (by kernel_rfl) f g w
@[go_sem high] theorem eql_nine (f g : Nat → UInt8) (w : World) : (binOp .eql 48 (.agg (rowB 576 f)) (.agg (rowB 576 g))).run Try.prog w = .ok (.bool (eqF f g 576)) w :=
  eqlRows (m := 9) (n := 64) Try.underlying48 Try.underlying39 Try.underlying5 (by kernel_rfl) (by kernel_rfl) f g w
/-- A disk of the call's own, and a block beside it that is kept. -/
structure DkH (w W : World) (p : Nat) (d : Dk) (b : Nat) (o : Obj) : Prop where
  ex : Ex w W
  bl : W.heap[b]? = some o
  lo : w.heap.size ≤ b
  out : ∃ L, L.p = p ∧ DkAt W L d ∧ ¬ L.own b ∧ ∀ c, L.own c → w.heap.size ≤ c
theorem DkH.of {w W W' : World} {p : Nat} {d : Dk} {b : Nat} {o : Obj} (h : DkO w W p d) (k : Ex W W') (hb : W'.heap[b]? = some o) (hlo : W.heap.size ≤ b) : DkH w W' p d b o := by
  obtain ⟨L, h1, h2, h3⟩ := h.out
  exact ⟨ex_trans h.ex k, hb, Nat.le_trans (ex_size h.ex) hlo, L, h1, h2.ex k, fun e => by have := h2.lt e; omega, h3⟩
theorem DkH.grow {w W W' : World} {p : Nat} {d : Dk} {b : Nat} {o : Obj} (h : DkH w W p d b o) (k : Ex W W') : DkH w W' p d b o := by
  obtain ⟨L, h1, h2, h3, h4⟩ := h.out
  exact ⟨ex_trans h.ex k, ex_block k h.bl, h.lo, L, h1, h2.ex k, h3, h4⟩
theorem DkH.o {w W : World} {p : Nat} {d : Dk} {b : Nat} {o : Obj} (h : DkH w W p d b o) : DkO w W p d := by
  obtain ⟨L, h1, h2, h3, h4⟩ := h.out
  exact ⟨h.ex, L, h1, h2, h4⟩
/-- A turn of the disk. -/
theorem DkH.call {w W : World} {p : Nat} {d d' : Dk} {b : Nat} {o : Obj} {f : FuncId} {args : Array Value} {v : Value} (h : DkH w W p d b o) (hc : ∀ L, L.p = p → DkAt W L d → Calls Try.prog f args W (PostD W L d' v)) :
    Calls Try.prog f args W fun e w' => e = .returned v ∧ DkH w w' p d' b o := by
  obtain ⟨L, h1, h2, h3, h4⟩ := h.out
  refine (hc L h1 h2).mono fun e w' hh => ?_
  obtain ⟨L', rfl, k1, k2⟩ := hh
  have hz := (Array.getElem?_eq_some_iff.1 h.bl).1
  exact ⟨rfl, ex_of_below ((ex_below h.ex).trans (k2.below (ex_size h.ex) h4)), (k2.same b hz h3).trans h.bl, h.lo, L', k2.pp.trans h1, k1, fun e => (k2.own e).elim h3 fun e => by omega, fun c hc => (k2.own hc).elim (h4 c) fun e => Nat.le_trans (ex_size h.ex) e⟩
/-- What only asks. -/
theorem DkH.look {w W : World} {p : Nat} {d : Dk} {b : Nat} {o : Obj} {f : FuncId} {args : Array Value} {v : Value} (h : DkH w W p d b o) (hc : ∀ L, L.p = p → DkAt W L d → Calls Try.prog f args W (Post W v)) :
    Calls Try.prog f args W fun e w' => e = .returned v ∧ DkH w w' p d b o := by
  obtain ⟨L, h1, h2, h3, h4⟩ := h.out
  refine (hc L h1 h2).mono fun e w' hh => ?_
  obtain ⟨rfl, X, rfl⟩ := hh
  exact ⟨rfl, h.grow (ex_wx (ex_refl _) X)⟩
/-- The base's own blocks may be turned. -/
theorem DkO.turnBase {w W : World} {p : Nat} {d : Dk} (h : DkO w W p d) {b : Nat} (hb : b < w.heap.size) (off : Nat) (v : Value) : DkO (w.setCell ⟨b, off, none⟩ v) (W.setCell ⟨b, off, none⟩ v) p d := by
  obtain ⟨L, h1, h2, h3⟩ := h.out
  obtain ⟨qv, hM⟩ := h2.out
  refine ⟨?_, L, h1, ⟨qv, hM.keep fun c hc => setCell_heap v (by have := h3 c hc; omega)⟩, fun c hc => ?_⟩
  · obtain ⟨X, rfl⟩ := h.ex
    exact ⟨X, wx_set _ _ _ _ hb⟩
  · rw [show (w.setCell ⟨b, off, none⟩ v).heap.size = w.heap.size by simp [World.setCell]]
    exact h3 c hc
end Go.Proofs.Ytdohohafdplkiaa
