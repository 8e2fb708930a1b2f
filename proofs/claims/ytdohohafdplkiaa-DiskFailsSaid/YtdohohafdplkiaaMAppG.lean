import Derived.Test.YtdohohafdplkiaaMOwn
import Derived.Maps.AppendAt

/- append onto a row of the call's own, whatever its elements, and where it lies then. Over whatever program. -/
set_option linter.unusedSimpArgs false
set_option linter.unusedVariables false
set_option maxRecDepth 20000
namespace Go.Proofs.Ytdohohafdplkiaa
open Go.RowKit
theorem setCell_heap {w : World} {b o : Nat} (v : Value) {k : Nat} (h : k ≠ b) : (w.setCell ⟨b, o, none⟩ v).heap[k]? = w.heap[k]? := by
  simp only [World.setCell, Array.getElem?_modify]
  rw [if_neg (by simpa using Ne.symm h)]
theorem setCell_block {w : World} {b o : Nat} {cs : Array Value} {t : TypeId} {fr : Nat × Nat} (v : Value) (h : w.heap[b]? = some (.cells cs t fr)) : (w.setCell ⟨b, o, none⟩ v).heap[b]? = some (.cells (cs.setIfInBounds o v) t fr) := by
  simp [World.setCell, Array.getElem?_modify, h]
theorem block_cell {w : World} {b o : Nat} {cs : Array Value} {t : TypeId} {v : Value} (h : w.heap[b]? = some (.cells cs t (0, 0))) (hv : cs[o]? = some v) : w.cell? ⟨b, o, none⟩ = some v ∧ w.frozen? ⟨b, o, none⟩ = false := by
  refine ⟨?_, ?_⟩
  · rw [cell_of_row w b o cs t (0, 0) h]; exact hv
  · simp [World.frozen?, h]
theorem block_cells {w : World} {b n : Nat} {cs : Array Value} {t : TypeId} (h : w.heap[b]? = some (.cells cs t (0, 0))) (hn : cs.size = n) : cellsN w b 0 n = some cs ∧ frozenN w b 0 n = false := by
  subst hn
  refine ⟨cellsN_some.2 ⟨rfl, fun j hj => ?_⟩, frozenN_false.2 fun j hj => ?_⟩
  · rw [Nat.zero_add, cell_of_row w b j cs t (0, 0) h]
  · simp [World.frozen?, h]
/-- What holds behind appends onto v, which has become v'. -/
structure Apd (w w' : World) (v v' : Value) : Prop where
  os : w'.os = w.os
  tape : w'.tape = w.tape
  output : w'.output = w.output
  size : w.heap.size ≤ w'.heap.size
  block : ∀ k, k < w.heap.size → v.ownBlock ≠ some k → w'.heap[k]? = w.heap[k]?
  own : v'.ownBlock = v.ownBlock ∨ ∃ g, v'.ownBlock = some g ∧ w.heap.size ≤ g
theorem Apd.ofEx {w w' : World} (k : Ex w w') (v : Value) : Apd w w' v v := by
  obtain ⟨X, rfl⟩ := k
  exact ⟨rfl, rfl, rfl, by rw [wx_size]; omega, fun k hk _ => wx_heap w X k hk, Or.inl rfl⟩
theorem Apd.trans {a b c : World} {u v x : Value} (h : Apd a b u v) (k : Apd b c v x) : Apd a c u x := by
  refine ⟨k.os.trans h.os, k.tape.trans h.tape, k.output.trans h.output, Nat.le_trans h.size k.size, fun i hi hu => ?_, ?_⟩
  · rw [k.block i (Nat.lt_of_lt_of_le hi h.size) fun e => ?_, h.block i hi hu]
    rcases h.own with h1 | ⟨g, h1, h2⟩
    · exact hu (h1 ▸ e)
    · rw [h1] at e
      have := Option.some.inj e
      omega
  · rcases k.own with h1 | ⟨g, h1, h2⟩
    · rcases h.own with h3 | ⟨g, h3, h4⟩
      · exact Or.inl (h1.trans h3)
      · exact Or.inr ⟨g, h1.trans h3, h4⟩
    · have := h.size
      exact Or.inr ⟨g, h1, by omega⟩
theorem Apd.below {w w' : World} {v v' : Value} (h : Apd w w' v v') {Z : Nat} (hZ : Z ≤ w.heap.size) (hv : ∀ g, v.ownBlock = some g → Z ≤ g) : Below Z w w' :=
  ⟨h.os, h.tape, h.output, h.size, fun k hk => h.block k (by omega) fun e => by have := hv k e; omega⟩
theorem apd_none {P : Program} {t ty e : TypeId} {i : TypeInfo} (ht : P.underlying t = some (.slice e)) (hi : P.info? e = some i) (a : Option Addr) (n c : Nat) (hn : n ≤ c) (w : World) :
    (Builtin.append_ #[t, t] ty #[.slice a n c, .slice none 0 0]).run P w = .ok (.slice a n c) w := by
  cases a with
  | none => simp [Builtin.append_, run_underlying ht, sizeOf, typeInfo, hi, Builtin.lenOf, Builtin.firstCells, hn]
  | some ad => simp [Builtin.append_, run_underlying ht, sizeOf, typeInfo, hi, Builtin.lenOf, Builtin.firstCells, hn, storeCells]
theorem wpApd {P : Program} {t e : TypeId} {size bytes : Nat} {z : Value} (T : AppT P t e size bytes z) {ops : Array Oper} {rest : List Oper} {o : Oper} {a : Act} {w : World} {Q : Exit → Act → World → Prop} (s x : Operand) (hgd : o.guard = none)
    (ho : o.op = .call { callee := .builtin .append, args := #[s, x], argTypes := #[t, t] })
    {B : Nat} {v : Value} {n : Nat} {xs : List Value} (hown : w.ownsRow B e size v n xs) (hs : a.eval s = v)
    (ad : Addr) (m c : Nat) (news : List Value) (hx : a.eval x = .slice (some ad) m c) (hl : news.length = m * size) (hnews : ∀ j u, news[j]? = some u → w.cell? (ad.add j) = some u) (h1 : ∀ u ∈ news, u.oneCell' = true)
    (h63 : n + m ≤ maxLen) (hbytes : (n + m) * bytes ≤ 140737488355328) (hbase : B ≤ w.heap.size)
    (h : ∀ v' w', w'.ownsRow B e size v' (n + m) (xs ++ news) → Apd w w' v v' → wpList P ops Q rest (a.put o.dst v') w') : wpList P ops Q (o :: rest) a w := by
  obtain ⟨i, hi, h1', h2', h3'⟩ := info_parts T.hi
  refine wpList_append_own_at w hgd s x _ ho B _ i _ _ _ T.ht hi h1' h2' h3' T.hzs T.hsz v _ _ hs hown ad m c news hx hl hnews h1 h63 hbytes hbase fun v' w' k1 k2 _ k3 => ?_
  refine h v' w' k1 ⟨k2.os, k2.tape, k2.output, k2.size, fun k hk hne => k2.block k hk (fun e => hne e.symm), ?_⟩
  rcases k3 with k3 | k3
  · exact Or.inl k3
  · exact Or.inr ⟨_, k3, Nat.le_refl _⟩
theorem wpApdNone {P : Program} {t e : TypeId} {size bytes : Nat} {z : Value} (T : AppT P t e size bytes z) {ops : Array Oper} {rest : List Oper} {o : Oper} {a : Act} {w : World} {Q : Exit → Act → World → Prop} (s x : Operand) (hgd : o.guard = none)
    (ho : o.op = .call { callee := .builtin .append, args := #[s, x], argTypes := #[t, t] })
    {ad : Option Addr} {n c : Nat} (hn : n ≤ c) (hs : a.eval s = .slice ad n c) (hx : a.eval x = .slice none 0 0)
    (h : wpList P ops Q rest (a.put o.dst (.slice ad n c)) w) : wpList P ops Q (o :: rest) a w := by
  obtain ⟨i, hi, h1', h2', h3'⟩ := info_parts T.hi
  have hrun := apd_none (P := P) (ty := o.type) T.ht hi ad n c hn w
  refine wpList_plain hgd fun K hK => ?_
  unfold Oper.wp execOp
  simp only [ho, resolve, invoke, builtin, Sem.run_bind, Sem.run_pure, Result.andThen_ok, List.map_toArray, List.map_cons, List.map_nil, hs, hx]
  rw [hrun]
  exact hK _ _ h
end Go.Proofs.Ytdohohafdplkiaa
