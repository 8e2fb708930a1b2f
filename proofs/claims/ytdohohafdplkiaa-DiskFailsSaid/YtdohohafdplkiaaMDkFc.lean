import Derived.Test.YtdohohafdplkiaaMDkFb

/- What failed left all as it was: the law, walked. -/
set_option linter.unusedSimpArgs false
set_option linter.unusedVariables false
set_option maxRecDepth 20000
namespace Go.Proofs.Ytdohohafdplkiaa
open Go.RowKit
theorem asks_len (l : List Ak) (d : Dk) : (asksD d l).has.length = d.has.length := by
  unfold asksD
  induction l generalizing d with
  | nil => rfl
  | cons a l ih => rw [List.foldl_cons, ih, ask_len]
theorem DkO.base {w0 w W : World} {p : Nat} {d : Dk} (h : DkO w W p d) (k : Ex w0 w) : DkO w0 W p d := by
  obtain ⟨L, h1, h2, h3⟩ := h.out
  exact ⟨ex_trans k h.ex, L, h1, h2, fun b hb => Nat.le_trans (ex_size k) (h3 b hb)⟩
theorem DkO.call {w W : World} {p : Nat} {d d' : Dk} {f : FuncId} {args : Array Value} {v : Value} (h : DkO w W p d) (hc : ∀ L, L.p = p → DkAt W L d → Calls Try.prog f args W (PostD W L d' v)) :
    Calls Try.prog f args W fun e w' => e = .returned v ∧ DkO w w' p d' := by
  obtain ⟨L, h1, h2, h4⟩ := h.out
  refine (hc L h1 h2).mono fun e w' hh => ?_
  obtain ⟨L', rfl, k1, k2⟩ := hh
  exact ⟨rfl, DkO.turn h.ex h4 h1 k1 k2⟩
/-- The row of a disk that was asked. -/
structure AsB (m : Nat) (d : Dk) : Prop where
  len : d.has.length = 9
  ops : d.ops ≤ m
  qu : d.qu.length ≤ m
theorem asked_b (l : List Ak) : AsB 70 (asksD (newD 9) (l.take 70)) := by
  have h1 := asks_b (l.take 70) (newd_b 9)
  have h2 := asks_len (l.take 70) (newD 9)
  have h3 : (l.take 70).length ≤ 70 := by rw [List.length_take]; omega
  exact ⟨by rw [h2]; simp [newD], by have := h1.2; omega, by have := h1.1; omega⟩
theorem mod_kind {x : Int} (N : Int) (hN : 0 < N) : ∃ k : Nat, (x % 18446744073709551616).tmod N = k ∧ (k : Int) < N := by
  have hm0 : 0 ≤ x % 18446744073709551616 := by omega
  rw [Int.tmod_eq_emod_of_nonneg hm0]
  have h1 := Int.emod_nonneg (x % 18446744073709551616) (by omega : N ≠ 0)
  have h2 := Int.emod_lt_of_pos (x % 18446744073709551616) hN
  exact ⟨(x % 18446744073709551616 % N).toNat, by omega, by omega⟩
end Go.Proofs.Ytdohohafdplkiaa

/- What failed left all as it was: the law, walked (2). -/
set_option linter.unusedSimpArgs false
set_option linter.unusedVariables false
set_option maxRecDepth 20000
namespace Go.Proofs.Ytdohohafdplkiaa
open Go.RowKit
def boxA (a : Ak) (kv : Value) : Obj := .cells #[I a.kind, I a.at', I a.n, kv] 37 (0, 0)
theorem box_cells {W : World} {b : Nat} {a : Ak} {kv : Value} (h : W.heap[b]? = some (boxA a kv)) : cellsN W b 0 4 = some #[I a.kind, I a.at', I a.n, kv] ∧ W.cell? ⟨b, 0, none⟩ = some (I a.kind) ∧ W.cell? ⟨b, 1, none⟩ = some (I a.at') ∧ W.frozen? ⟨b, 0, none⟩ = false ∧ W.frozen? ⟨b, 1, none⟩ = false ∧ b < W.heap.size ∧ frozenN W b 0 4 = false := by
  obtain ⟨h1, h2⟩ := block_cells (n := 4) h rfl
  obtain ⟨c0, f0⟩ := block_cell (o := 0) h rfl
  obtain ⟨c1, f1⟩ := block_cell (o := 1) h rfl
  exact ⟨h1, c0, c1, f0, f1, (Array.getElem?_eq_some_iff.1 h).1, h2⟩
theorem view_o {w W : World} {p : Nat} {d : Dk} (h : DkO w W p d) (hn : d.has.length = 9) (hops : d.ops < 1000000) : Calls Try.prog 19 #[PT p, .slice none 0 0] W fun e w' => e = .returned (.tuple #[.agg (rowB 576 (nineF (viewD d []))), .bool true]) ∧ Ex W w' := by
  obtain ⟨L, rfl, h2, h3⟩ := h.out
  exact view_any h2 hn hops (SlV1.nil _ _ _) (fun g hg => by cases hg)
/-- What is asked in the law: a request of a sector that is there. -/
def reA (a : Ak) : Ak := ⟨3 + (a.kind % 18446744073709551616).tmod 4, (a.at' % 18446744073709551616).tmod 9, a.n, a.keep⟩
theorem reA_r (a : Ak) : AkR (reA a) := by
  obtain ⟨k, hk, hk4⟩ := mod_kind (x := a.kind) 4 (by omega)
  obtain ⟨j, hj, hj9⟩ := mod_kind (x := a.at') 9 (by omega)
  unfold reA
  rw [hk, hj]
  exact ⟨by simp only; omega, by simp only; omega, by simp only; omega, by simp only; omega⟩
theorem reA_b {a : Ak} (h : AkB a) : AkB (reA a) := by
  have := reA_r a
  exact ⟨by have := this.a1; omega, by have := this.a2; omega, h.n2⟩
theorem DkO.turnBox {w W : World} {p : Nat} {d : Dk} {a : Ak} {kv : Value} (h : DkO (w.alloc (boxA a kv)) W p d) (b : Ak) (hn : b.n = a.n) :
    DkO (w.alloc (boxA b kv)) ((W.setCell ⟨w.heap.size, 0, none⟩ (I b.kind)).setCell ⟨w.heap.size, 1, none⟩ (I b.at')) p d := by
  have h1 := (h.turnBase (b := w.heap.size) (by simp [go_sem]) 0 (I b.kind)).turnBase (b := w.heap.size) (by simp [go_sem]) 1 (I b.at')
  have e : ((w.alloc (boxA a kv)).setCell ⟨w.heap.size, 0, none⟩ (I b.kind)).setCell ⟨w.heap.size, 1, none⟩ (I b.at') = w.alloc (boxA b kv) := by
    unfold boxA
    rw [← hn]
    simp [go_sem]
  rwa [e] at h1
end Go.Proofs.Ytdohohafdplkiaa
