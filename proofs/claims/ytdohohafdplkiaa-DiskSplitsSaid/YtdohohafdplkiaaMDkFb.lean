import Derived.Test.YtdohohafdplkiaaMDkFa

/- Rows of rows that are held against one another; a disk beside a block that is kept. -/
set_option linter.unusedSimpArgs false
set_option linter.unusedVariables false
set_option maxRecDepth 20000
namespace Go.Proofs.Ytdohohafdplkiaa
open Go.RowKit
section
variable {P : Program}
theorem rowB_extr (N : Nat) (f : Nat → UInt8) (o n : Nat) (h : o + n ≤ N) : (rowB N f).extract o (o + n) = rowB n fun j => f (o + j) := by
  apply Array.ext_getElem?
  intro j
  rw [Array.getElem?_extract, rowB_get, rowB_get, rowB_size]
  by_cases hj : j < n
  · rw [if_pos (by omega), if_pos (by omega), if_pos hj]
  · rw [if_neg (by omega), if_neg hj]
theorem equalIn_rows {t e b : TypeId} {m n : Nat} (hu : P.underlying t = some (.array m e)) (he : P.underlying e = some (.array n b)) (hb : P.underlying b = some (.int .u8)) (hs : (P.info? e).map (·.size) = some n) (hsb : (P.info? b).map (·.size) = some 1) (f g : Nat → UInt8) (d : Nat) (w : World) :
    (Op.equalIn (d + 3) t (.agg (rowB (m * n) f)) (.agg (rowB (m * n) g))).run P w = .ok (eqF f g (m * n)) w := by
  obtain ⟨j, hj, hsz⟩ : ∃ j, P.info? e = some j ∧ j.size = n := by
    cases hq : P.info? e with
    | none => rw [hq] at hs; cases hs
    | some i => exact ⟨i, rfl, by rw [hq] at hs; simpa using hs⟩
  have hce : P.cellsOf e = n := by simp [Program.cellsOf, hj, hsz]
  have hin : ∀ i, i < m → i * n + n ≤ m * n := fun i hi => by rw [← Nat.succ_mul]; exact Nat.mul_le_mul_right n hi
  have hpart : ∀ (z : Nat → UInt8) (i : Nat), i < m → (part e (rowB (m * n) z) (i * P.cellsOf e)).run P w = .ok (.agg (rowB n fun k => z (i * n + k))) w := by
    intro z i hi
    have hrow : (isAgg e).run P w = .ok true w := by simp [isAgg, run_underlying he]
    have := rowB_extr (m * n) z (i * n) n (hin i hi)
    simp [part, run_sizeOf w hj, hce, hrow, this]
  have heq : ∀ x y : Nat → UInt8, (Op.equalIn (d + 2) e (.agg (rowB n x)) (.agg (rowB n y))).run P w = .ok (eqF x y n) w := fun x y => by
    rw [equalIn_ints he hb hsb (rowB n x) (rowB n y) (fun i => bn (x i)) (fun i => bn (y i)) (fun i hi => by rw [rowB_get, if_pos hi]) (fun i hi => by rw [rowB_get, if_pos hi]) d w, all_range, eqF_B]
    simp
  have hall : eqF f g (m * n) = (List.range m).all fun i => eqF (fun k => f (i * n + k)) (fun k => g (i * n + k)) n := by
    rw [Bool.eq_iff_iff, eqF_true, List.all_eq_true]
    constructor
    · intro h i hi
      rw [eqF_true]
      intro k hk
      have := hin i (List.mem_range.1 hi)
      exact h _ (by omega)
    · intro h k hk
      have hn : 0 < n := Nat.pos_of_ne_zero fun e => by rw [e] at hk; simp at hk
      have hi : k / n < m := (Nat.div_lt_iff_lt_mul hn).2 hk
      have h1 := eqF_true.1 (h _ (List.mem_range.2 hi)) (k % n) (Nat.mod_lt _ hn)
      have h2 : k / n * n + k % n = k := by rw [Nat.mul_comm]; exact Nat.div_add_mod k n
      simp only [h2] at h1
      exact h1
  rw [hall, show d + 3 = (d + 2) + 1 from rfl]
  generalize d + 2 = q at heq ⊢
  simp only [Op.equalIn, Sem.run_bind, run_underlying hu, Result.andThen_ok, run_sizeOf w hj, hsz]
  rw [Std.Legacy.Range.forIn_eq_forIn_range']
  rw [show Std.Legacy.Range.size [0:m] = m by simp [Std.Legacy.Range.size]]
  rw [← List.range_eq_range']
  generalize hl : List.range m = l
  have hm : ∀ i ∈ l, i < m := fun i hi => by rw [← hl] at hi; exact List.mem_range.1 hi
  clear hl hall
  induction l with
  | nil => simp
  | cons i l ih =>
    have hi := hm i List.mem_cons_self
    simp only [List.forIn_cons, Sem.run_bind, hpart f i hi, hpart g i hi, Result.andThen_ok, heq, List.all_cons]
    cases hxy : eqF (fun k => f (i * n + k)) (fun k => g (i * n + k)) n with
    | true =>
      simp only [Bool.not_true, Bool.false_eq_true, if_false, Sem.run_pure, Result.andThen_ok, Bool.true_and]
      exact ih fun i hi => hm i (List.mem_cons_of_mem _ hi)
    | false =>
      simp only [Bool.not_false, if_true, Sem.run_pure, Result.andThen_ok, Bool.false_and]
theorem neqRows {t e b : TypeId} {m n : Nat} (hu : P.underlying t = some (.array m e)) (he : P.underlying e = some (.array n b)) (hb : P.underlying b = some (.int .u8)) (hs : (P.info? e).map (·.size) = some n) (hsb : (P.info? b).map (·.size) = some 1) (f g : Nat → UInt8) (w : World) :
    (binOp .neq t (.agg (rowB (m * n) f)) (.agg (rowB (m * n) g))).run P w = .ok (.bool (!eqF f g (m * n))) w := by
  rw [run_neq_struct, equalIn_rows hu he hb hs hsb f g 9997 w]; simp
theorem eqlRows {t e b : TypeId} {m n : Nat} (hu : P.underlying t = some (.array m e)) (he : P.underlying e = some (.array n b)) (hb : P.underlying b = some (.int .u8)) (hs : (P.info? e).map (·.size) = some n) (hsb : (P.info? b).map (·.size) = some 1) (f g : Nat → UInt8) (w : World) :
    (binOp .eql t (.agg (rowB (m * n) f)) (.agg (rowB (m * n) g))).run P w = .ok (.bool (eqF f g (m * n))) w := by
  rw [run_eql_struct, equalIn_rows hu he hb hs hsb f g 9997 w]; simp
end
@[go_sem high] theorem neq_nine (f g : Nat → UInt8) (w : World) : (binOp .neq 48 (.agg (rowB 576 f)) (.agg (rowB 576 g))).run Try.prog w = .ok (.bool (!eqF f g 576)) w :=
  neqRows (m := 9) (n := 64) Try.underlying48 Try.underlying39 Try.underlying5 (by kernel_rfl) (by kernel_rfl) f g w
@[go_sem high] theorem eql_nine (f g : Nat → UInt8) (w : World) : (binOp .eql 48 (.agg (rowB 576 f)) (.agg (rowB 576 g))).run Try.prog w = .ok (.bool (eqF f g 576)) w :=
  eqlRows (m := 9) (n := 64) Try.underlying48 Try.underlying39 Try.underlying5 (by kernel_rfl) (by kernel_rfl) f g w
/-- A disk of the call's own, and a block beside it that is kept. -/
structure DkH (w W : World) (p : Nat) (d : Dk) (b : Nat) (o : Obj) : Prop where
  ex : Ex w W
  bl : W.heap[b]? = some o
  lo : w.heap.size ≤ b
  out : ∃ L, L.p = p ∧ DkAt W L d ∧ ¬ L.own b ∧ ∀ c, L.own c → w.heap.size ≤ c
theorem DkH.of {w W W' : World} {p : Nat} {d : Dk} {b : Nat} {o : Obj} (h : DkO w W p d) (k : Ex W W') (hb : W'.heap[b]? = some o) (hlo : W.heap.size ≤ b) : DkH w W' p d b o := by
  obtain ⟨L, h1, h2, h3⟩ := h.out
  exact ⟨ex_trans h.ex k, hb, Nat.le_trans (ex_size h.ex) hlo, L, h1, h2.ex k, fun e => by have := h2.lt e; omega, h3⟩
theorem DkH.grow {w W W' : World} {p : Nat} {d : Dk} {b : Nat} {o : Obj} (h : DkH w W p d b o) (k : Ex W W') : DkH w W' p d b o := by
  obtain ⟨L, h1, h2, h3, h4⟩ := h.out
  exact ⟨ex_trans h.ex k, ex_block k h.bl, h.lo, L, h1, h2.ex k, h3, h4⟩
theorem DkH.o {w W : World} {p : Nat} {d : Dk} {b : Nat} {o : Obj} (h : DkH w W p d b o) : DkO w W p d := by
  obtain ⟨L, h1, h2, h3, h4⟩ := h.out
  exact ⟨h.ex, L, h1, h2, h4⟩
/-- A turn of the disk. -/
theorem DkH.call {w W : World} {p : Nat} {d d' : Dk} {b : Nat} {o : Obj} {f : FuncId} {args : Array Value} {v : Value} (h : DkH w W p d b o) (hc : ∀ L, L.p = p → DkAt W L d → Calls Try.prog f args W (PostD W L d' v)) :
    Calls Try.prog f args W fun e w' => e = .returned v ∧ DkH w w' p d' b o := by
  obtain ⟨L, h1, h2, h3, h4⟩ := h.out
  refine (hc L h1 h2).mono fun e w' hh => ?_
  obtain ⟨L', rfl, k1, k2⟩ := hh
  have hz := (Array.getElem?_eq_some_iff.1 h.bl).1
  exact ⟨rfl, ex_of_below ((ex_below h.ex).trans (k2.below (ex_size h.ex) h4)), (k2.same b hz h3).trans h.bl, h.lo, L', k2.pp.trans h1, k1, fun e => (k2.own e).elim h3 fun e => by omega, fun c hc => (k2.own hc).elim (h4 c) fun e => Nat.le_trans (ex_size h.ex) e⟩
/-- What only asks. -/
theorem DkH.look {w W : World} {p : Nat} {d : Dk} {b : Nat} {o : Obj} {f : FuncId} {args : Array Value} {v : Value} (h : DkH w W p d b o) (hc : ∀ L, L.p = p → DkAt W L d → Calls Try.prog f args W (Post W v)) :
    Calls Try.prog f args W fun e w' => e = .returned v ∧ DkH w w' p d b o := by
  obtain ⟨L, h1, h2, h3, h4⟩ := h.out
  refine (hc L h1 h2).mono fun e w' hh => ?_
  obtain ⟨rfl, X, rfl⟩ := hh
  exact ⟨rfl, h.grow (ex_wx (ex_refl _) X)⟩
/-- The base's own blocks may be turned. -/
theorem DkO.turnBase {w W : World} {p : Nat} {d : Dk} (h : DkO w W p d) {b : Nat} (hb : b < w.heap.size) (off : Nat) (v : Value) : DkO (w.setCell ⟨b, off, none⟩ v) (W.setCell ⟨b, off, none⟩ v) p d := by
  obtain ⟨L, h1, h2, h3⟩ := h.out
  obtain ⟨qv, hM⟩ := h2.out
  refine ⟨?_, L, h1, ⟨qv, hM.keep fun c hc => setCell_heap v (by have := h3 c hc; omega)⟩, fun c hc => ?_⟩
  · obtain ⟨X, rfl⟩ := h.ex
    exact ⟨X, wx_set _ _ _ _ hb⟩
  · rw [show (w.setCell ⟨b, off, none⟩ v).heap.size = w.heap.size by simp [World.setCell]]
    exact h3 c hc
end Go.Proofs.Ytdohohafdplkiaa

/- What failed left all as it was: the law, walked. -/
set_option linter.unusedSimpArgs false
set_option linter.unusedVariables false
set_option maxRecDepth 20000
namespace Go.Proofs.Ytdohohafdplkiaa
open Go.RowKit
theorem asks_len (l : List Ak) (d : Dk) : (asksD d l).has.length = d.has.length := by
  unfold asksD
  induction l generalizing d with
  | nil => rfl
  | cons a l ih => rw [List.foldl_cons, ih, ask_len]
theorem DkO.base {w0 w W : World} {p : Nat} {d : Dk} (h : DkO w W p d) (k : Ex w0 w) : DkO w0 W p d := by
  obtain ⟨L, h1, h2, h3⟩ := h.out
  exact ⟨ex_trans k h.ex, L, h1, h2, fun b hb => Nat.le_trans (ex_size k) (h3 b hb)⟩
theorem DkO.call {w W : World} {p : Nat} {d d' : Dk} {f : FuncId} {args : Array Value} {v : Value} (h : DkO w W p d) (hc : ∀ L, L.p = p → DkAt W L d → Calls Try.prog f args W (PostD W L d' v)) :
    Calls Try.prog f args W fun e w' => e = .returned v ∧ DkO w w' p d' := by
  obtain ⟨L, h1, h2, h4⟩ := h.out
  refine (hc L h1 h2).mono fun e w' hh => ?_
  obtain ⟨L', rfl, k1, k2⟩ := hh
  exact ⟨rfl, DkO.turn h.ex h4 h1 k1 k2⟩
/-- The row of a disk that was asked. -/
structure AsB (m : Nat) (d : Dk) : Prop where
  len : d.has.length = 9
  ops : d.ops ≤ m
  qu : d.qu.length ≤ m
theorem asked_b (l : List Ak) : AsB 70 (asksD (newD 9) (l.take 70)) := by
  have h1 := asks_b (l.take 70) (newd_b 9)
  have h2 := asks_len (l.take 70) (newD 9)
  have h3 : (l.take 70).length ≤ 70 := by rw [List.length_take]; omega
  exact ⟨by rw [h2]; simp [newD], by have := h1.2; omega, by have := h1.1; omega⟩
theorem mod_kind {x : Int} (N : Int) (hN : 0 < N) : ∃ k : Nat, (x % 18446744073709551616).tmod N = k ∧ (k : Int) < N := by
  have hm0 : 0 ≤ x % 18446744073709551616 := by omega
  rw [Int.tmod_eq_emod_of_nonneg hm0]
  have h1 := Int.emod_nonneg (x % 18446744073709551616) (by omega : N ≠ 0)
  have h2 := Int.emod_lt_of_pos (x % 18446744073709551616) hN
  exact ⟨(x % 18446744073709551616 % N).toNat, by omega, by omega⟩
end Go.Proofs.Ytdohohafdplkiaa

/- What failed left all as it was: the law, walked (2). -/
set_option linter.unusedSimpArgs false
set_option linter.unusedVariables false
set_option maxRecDepth 20000
namespace Go.Proofs.Ytdohohafdplkiaa
open Go.RowKit
def boxA (a : Ak) (kv : Value) : Obj := .cells #[I a.kind, I a.at', I a.n, kv] 37 (0, 0)
theorem box_cells {W : World} {b : Nat} {a : Ak} {kv : Value} (h : W.heap[b]? = some (boxA a kv)) : cellsN W b 0 4 = some #[I a.kind, I a.at', I a.n, kv] ∧ W.cell? ⟨b, 0, none⟩ = some (I a.kind) ∧ W.cell? ⟨b, 1, none⟩ = some (I a.at') ∧ W.frozen? ⟨b, 0, none⟩ = false ∧ W.frozen? ⟨b, 1, none⟩ = false ∧ b < W.heap.size ∧ frozenN W b 0 4 = false := by
  obtain ⟨h1, h2⟩ := block_cells (n := 4) h rfl
  obtain ⟨c0, f0⟩ := block_cell (o := 0) h rfl
  obtain ⟨c1, f1⟩ := block_cell (o := 1) h rfl
  exact ⟨h1, c0, c1, f0, f1, (Array.getElem?_eq_some_iff.1 h).1, h2⟩
theorem view_o {w W : World} {p : Nat} {d : Dk} (h : DkO w W p d) (hn : d.has.length = 9) (hops : d.ops < 1000000) : Calls Try.prog 19 #[PT p, .slice none 0 0] W fun e w' => e = .returned (.tuple #[.agg (rowB 576 (nineF (viewD d []))), .bool true]) ∧ Ex W w' := by
  obtain ⟨L, rfl, h2, h3⟩ := h.out
  exact view_any h2 hn hops (SlV1.nil _ _ _) (fun g hg => by cases hg)
/-- What is asked in the law: a request of a sector that is there. -/
def reA (a : Ak) : Ak := ⟨3 + (a.kind % 18446744073709551616).tmod 4, (a.at' % 18446744073709551616).tmod 9, a.n, a.keep⟩
theorem reA_r (a : Ak) : AkR (reA a) := by
  obtain ⟨k, hk, hk4⟩ := mod_kind (x := a.kind) 4 (by omega)
  obtain ⟨j, hj, hj9⟩ := mod_kind (x := a.at') 9 (by omega)
  unfold reA
  rw [hk, hj]
  exact ⟨by simp only; omega, by simp only; omega, by simp only; omega, by simp only; omega⟩
theorem reA_b {a : Ak} (h : AkB a) : AkB (reA a) := by
  have := reA_r a
  exact ⟨by have := this.a1; omega, by have := this.a2; omega, h.n2, h.n1⟩
theorem DkO.turnBox {w W : World} {p : Nat} {d : Dk} {a : Ak} {kv : Value} (h : DkO (w.alloc (boxA a kv)) W p d) (b : Ak) (hn : b.n = a.n) :
    DkO (w.alloc (boxA b kv)) ((W.setCell ⟨w.heap.size, 0, none⟩ (I b.kind)).setCell ⟨w.heap.size, 1, none⟩ (I b.at')) p d := by
  have h1 := (h.turnBase (b := w.heap.size) (by simp [go_sem]) 0 (I b.kind)).turnBase (b := w.heap.size) (by simp [go_sem]) 1 (I b.at')
  have e : ((w.alloc (boxA a kv)).setCell ⟨w.heap.size, 0, none⟩ (I b.kind)).setCell ⟨w.heap.size, 1, none⟩ (I b.at') = w.alloc (boxA b kv) := by
    unfold boxA
    rw [← hn]
    simp [go_sem]
  rwa [e] at h1
end Go.Proofs.Ytdohohafdplkiaa
