import Derived.Test.YtcdocklbpfdmeaaDoorMRev
import Derived.Test.YtcdocklbpfdmeaaDoorMGoto
import Derived.Test.YtcdocklbpfdmeaaDoorMLittle

/- Climb, Includes. -/
set_option linter.unusedSimpArgs false
set_option linter.unusedVariables false
set_option maxRecDepth 20000
namespace Go.Proofs.YtcdocklbpfdmeaaDoor
open Go.RowKit
end Go.Proofs.YtcdocklbpfdmeaaDoor

/- Includes. -/
set_option linter.unusedSimpArgs false
set_option linter.unusedVariables false
set_option maxRecDepth 20000
namespace Go.Proofs.YtcdocklbpfdmeaaDoor
open Go.RowKit
end Go.Proofs.YtcdocklbpfdmeaaDoor

/- wakes of the history: it does something. -/
set_option linter.unusedSimpArgs false
set_option linter.unusedVariables false
set_option maxRecDepth 20000
namespace Go.Proofs.YtcdocklbpfdmeaaDoor
open Go.RowKit
@[go_sem] theorem lit_u1 : Value.agg #[.int .u8 1, .int .u8 0, .int .u8 0, .int .u8 0, .int .u8 0, .int .u8 0, .int .u8 0, .int .u8 0, .int .u8 0, .int .u8 0, .int .u8 0, .int .u8 0, .int .u8 0, .int .u8 0, .int .u8 0, .int .u8 0, .int .u8 0, .int .u8 0, .int .u8 0, .int .u8 0, .int .u8 0, .int .u8 0, .int .u8 0, .int .u8 0, .int .u8 0, .int .u8 0, .int .u8 0, .int .u8 0, .int .u8 0, .int .u8 0, .int .u8 0, .int .u8 0] = .agg (rowB 32 (dF (unitD 1))) := by kernel_rfl
@[go_sem] theorem lit_u2 : Value.agg #[.int .u8 2, .int .u8 0, .int .u8 0, .int .u8 0, .int .u8 0, .int .u8 0, .int .u8 0, .int .u8 0, .int .u8 0, .int .u8 0, .int .u8 0, .int .u8 0, .int .u8 0, .int .u8 0, .int .u8 0, .int .u8 0, .int .u8 0, .int .u8 0, .int .u8 0, .int .u8 0, .int .u8 0, .int .u8 0, .int .u8 0, .int .u8 0, .int .u8 0, .int .u8 0, .int .u8 0, .int .u8 0, .int .u8 0, .int .u8 0, .int .u8 0, .int .u8 0] = .agg (rowB 32 (dF (unitD 2))) := by kernel_rfl
@[go_sem] theorem lit_u3 : Value.agg #[.int .u8 3, .int .u8 0, .int .u8 0, .int .u8 0, .int .u8 0, .int .u8 0, .int .u8 0, .int .u8 0, .int .u8 0, .int .u8 0, .int .u8 0, .int .u8 0, .int .u8 0, .int .u8 0, .int .u8 0, .int .u8 0, .int .u8 0, .int .u8 0, .int .u8 0, .int .u8 0, .int .u8 0, .int .u8 0, .int .u8 0, .int .u8 0, .int .u8 0, .int .u8 0, .int .u8 0, .int .u8 0, .int .u8 0, .int .u8 0, .int .u8 0, .int .u8 0] = .agg (rowB 32 (dF (unitD 3))) := by kernel_rfl
def buildRun3 (P : Program) (t : TypeId) (x y z : Value) (w : World) : Result Next := ((Instr.buildSlice t 3 #[(0, x), (1, y), (2, z)]).run P w).andThen fun x w' => .ok (.value x) w'
@[go_sem ↓ high] theorem run_build3_pre {P : Program} (ρ : Operand → Value) (d : Option Tmp) (t : TypeId) (x y z : Operand) (ty : TypeId) (pos : String) (aft : Array Edge) (g : Option (Nat × Bool)) (w : World) :
    Sem.run P (execOp ρ ⟨d, .buildSlice t 3 #[(0, x), (1, y), (2, z)], ty, pos, aft, g⟩) w = buildRun3 P t (ρ x) (ρ y) (ρ z) w := by
  simp only [execOp, Sem.run_bind, Sem.run_pure, buildRun3, List.map_toArray, List.map_cons, List.map_nil]
@[go_sem low] theorem buildRun3_other {P : Program} (t : TypeId) (x y z : Value) (w : World) : buildRun3 P t x y z w = ((Instr.buildSlice t 3 #[(0, x), (1, y), (2, z)]).run P w).andThen fun x w' => .ok (.value x) w' := rfl
def C3 (a b c : Dg) : Array Value := rowB 32 (dF a) ++ rowB 32 (dF b) ++ rowB 32 (dF c)
theorem buildRun3_id (a b c : Dg) (w : World) : buildRun3 Tryd.prog 25 (.agg (rowB 32 (dF a))) (.agg (rowB 32 (dF b))) (.agg (rowB 32 (dF c))) w = .ok (.value (.slice (some ⟨w.heap.size, 0, none⟩) 3 3)) (w.alloc (.cells (C3 a b c) 46)) := by
  unfold buildRun3
  have hi : (Tryd.prog.info? 46).map (fun i => (i.zero, i.size)) = some (some (.agg (rowB 32 fun _ => 0)), 32) := by kernel_rfl
  obtain ⟨i, hi1, hi2⟩ := Option.map_eq_some_iff.1 hi
  simp only [Prod.mk.injEq] at hi2
  simp [Instr.buildSlice, run_underlying Tryd.underlying25, Go.sizeOf, typeInfo, zeroValue, hi1, hi2.1, hi2.2, Instr.fill, Value.cells, newRow, rowB_size]
  generalize hX : (if _ < 64 then none else _) = X
  have hX2 : X = some (C3 a b c) := by
    rw [← hX]; kernel_rfl
  rw [hX2]
  simp [newObj]
  rfl
attribute [go_sem] buildRun3_id
end Go.Proofs.YtcdocklbpfdmeaaDoor

/- short; Clone of digests. -/
set_option linter.unusedSimpArgs false
set_option linter.unusedVariables false
set_option maxRecDepth 20000
namespace Go.Proofs.YtcdocklbpfdmeaaDoor
open Go.RowKit
theorem wpAppS {ops : Array Oper} {rest : List Oper} {o : Oper} {a : Act} {w : World} {Q : Exit → Act → World → Prop} (s x : Operand) (hgd : o.guard = none)
    (ho : o.op = .call { callee := .builtin .append, args := #[s, x], argTypes := #[25, 25] })
    {Z : Nat} {v : Value} {l r : List Dg} {ad : Addr} {m c : Nat} (hown : OwnD w Z v l) (hs : a.eval s = v) (hx : a.eval x = .slice (some ad) m c) (hm : m = r.length) (hr : SlD w (some ad) r) (hlen : l.length + r.length ≤ 1000000) (hZ : Z ≤ w.heap.size)
    (h : ∀ v' w', OwnD w' Z v' (l ++ r) → Below Z w w' → wpList Tryd.prog ops Q rest (a.put o.dst v') w') : wpList Tryd.prog ops Q (o :: rest) a w := by
  rcases hr.out with rfl | ⟨g, off, hg, _, _⟩
  · subst hm
    refine wpApp appId s x hgd ho hown hs ad 0 c [] hx rfl (fun j u hj => by simp at hj) (fun u hu => by cases hu) (by unfold maxLen; omega) (by omega) hZ fun v' w' k1 k2 => ?_
    rw [List.append_nil] at k1
    exact h v' w' (by rw [List.append_nil]; exact k1) k2
  · cases hg
    exact wpAppD s x hgd ho hown hs hx hm hr hlen hZ h
/-- An empty row, new. -/
theorem ownd_empty {w w' : World} {Z : Nat} {v : Value} (k : Ex (w.alloc (.cells #[] 46)) w') (hv : v = .slice (some ⟨w.heap.size, 0, none⟩) 0 0) (hZ : Z ≤ w.heap.size) : OwnD w' Z v [] := by
  subst hv
  exact owns_ex (owns_new (n := 0) (cap := 0) rfl hZ (by omega) (by decide) (by simp) (by simp)) k
@[go_sem high] theorem eqlnil_id (a : Option Addr) (n c : Nat) (w : World) : (binOp .eql 25 (.slice a n c) (.slice none 0 0)).run Tryd.prog w = .ok (.bool a.isNone) w := _root_.Go.run_eql_slice_nil w _ _ a n c Tryd.underlying25
end Go.Proofs.YtcdocklbpfdmeaaDoor

/- Slices of pairs; what goes through them. -/
set_option linter.unusedSimpArgs false
set_option linter.unusedVariables false
set_option maxRecDepth 20000
namespace Go.Proofs.YtcdocklbpfdmeaaDoor
open Go.RowKit
def PC (p : Pr) : Array Value := #[.string p.1, .string p.2]
theorem PC_size (p : Pr) : (PC p).size = 2 := rfl
structure SlP (w : World) (a : Option Addr) (l : List Pr) : Prop where
  out : l = [] ∨ ∃ g off, a = some ⟨g, off, none⟩ ∧ g < w.heap.size ∧ ∀ i d, l[i]? = some d → cellsN w g (off + i * 2) 2 = some (PC d)
theorem SlP.ex {w w' : World} {a : Option Addr} {l : List Pr} (h : SlP w a l) (k : Ex w w') : SlP w' a l := by
  obtain ⟨X, rfl⟩ := k
  rcases h.out with h | ⟨g, off, h1, h2, h3⟩
  · exact ⟨Or.inl h⟩
  · refine ⟨Or.inr ⟨g, off, h1, by rw [wx_size]; omega, fun i d hd => ?_⟩⟩
    rw [cellsN_congr fun j _ => wx_cell w X _ h2]; exact h3 i d hd
theorem SlP.pos {w : World} {a : Option Addr} {l : List Pr} (h : SlP w a l) (hn : 0 < l.length) : ∃ g off, a = some ⟨g, off, none⟩ ∧ g < w.heap.size ∧ ∀ i d, l[i]? = some d → cellsN w g (off + i * 2) 2 = some (PC d) := by
  rcases h.out with rfl | h
  · simp at hn
  · exact h
theorem SlP.nil (w : World) (a : Option Addr) : SlP w a [] := ⟨Or.inl rfl⟩
theorem SlP.take {w : World} {a : Option Addr} {l : List Pr} (h : SlP w a l) (k : Nat) : SlP w a (l.take k) := by
  rcases h.out with rfl | ⟨g, off, h1, h2, h3⟩
  · exact ⟨Or.inl (by simp)⟩
  · refine ⟨Or.inr ⟨g, off, h1, h2, fun i d hd => ?_⟩⟩
    rw [List.getElem?_take] at hd
    split at hd
    · exact h3 i d hd
    · cases hd
theorem SlP.drop {w : World} {g off : Nat} {l : List Pr} (h : SlP w (some ⟨g, off, none⟩) l) (k : Nat) : SlP w (some ⟨g, off + k * 2, none⟩) (l.drop k) := by
  rcases h.out with rfl | ⟨g', off', h1, h2, h3⟩
  · exact ⟨Or.inl (by simp)⟩
  · cases h1
    refine ⟨Or.inr ⟨g, _, rfl, h2, fun i d hd => ?_⟩⟩
    rw [List.getElem?_drop] at hd
    rw [Nat.add_assoc, ← Nat.add_mul]
    exact h3 _ d hd
theorem SlP.at {w : World} {g off : Nat} {l : List Pr} (h : SlP w (some ⟨g, off, none⟩) l) {i : Nat} {d : Pr} (hd : l[i]? = some d) : cellsN w g (off + i * 2) 2 = some (PC d) ∧ g < w.heap.size := by
  rcases h.out with rfl | ⟨g', off', h1, h2, h3⟩
  · simp at hd
  · cases h1; exact ⟨h3 i d hd, h2⟩
theorem prAt_get {l : List Pr} {i : Nat} (h : i < l.length) : l[i]? = some (prAt l i) := by
  unfold prAt; rw [List.getD_eq_getElem?_getD, List.getElem?_eq_getElem h]; rfl
theorem SlP.row {w : World} {a : Option Addr} {l : List Pr} (h : SlP w a l) {i : Nat} (hi : i < l.length) : ∃ g off, a = some ⟨g, off, none⟩ ∧ g < w.heap.size ∧ cellsN w g (off + i * 2) 2 = some (PC (prAt l i)) ∧
    w.cell? ⟨g, off + i * 2, none⟩ = some (.string (prAt l i).1) ∧ w.cell? ⟨g, off + i * 2 + 1, none⟩ = some (.string (prAt l i).2) := by
  obtain ⟨g, off, h1, h2, h3⟩ := h.pos (by omega)
  have h4 := h3 i _ (prAt_get hi)
  have h5 := (cellsN_some.1 h4).2
  exact ⟨g, off, h1, h2, h4, (by have := h5 0 (by omega); simpa [PC] using this), (by have := h5 1 (by omega); simpa [PC] using this)⟩
def KP (p : Pr) : List Value := [.string p.1, .string p.2]
theorem KP_len (p : Pr) : (KP p).length = 2 := rfl
@[go_sem] theorem KP_back (p : Pr) : (KP p).toArray = PC p := rfl
/-- A row of pairs of the call's own. -/
def OwnP (w : World) (Z : Nat) (v : Value) (l : List Pr) : Prop := w.ownsRow Z 42 2 v l.length (l.flatMap KP)
theorem appCell : AppT Tryd.prog 22 42 2 32 (.agg #[.string ⟨#[]⟩, .string ⟨#[]⟩]) := ⟨Tryd.underlying22, by kernel_rfl, by simp [Value.cells], by decide⟩
theorem KP_one (l : List Pr) : ∀ u ∈ l.flatMap KP, u.oneCell' = true := by
  intro u hu
  simp only [List.mem_flatMap] at hu
  obtain ⟨d, _, hd⟩ := hu
  rcases (by simpa [KP] using hd : u = .string d.1 ∨ u = .string d.2) with rfl | rfl <;> rfl
theorem slp_news {w : World} {g off : Nat} {r : List Pr} (h : SlP w (some ⟨g, off, none⟩) r) : ∀ (j : Nat) (u : Value), (r.flatMap KP)[j]? = some u → w.cell? ((⟨g, off, none⟩ : Addr).add j) = some u := by
  intro j u hj
  have hlt : j < r.length * 2 := by
    have := (List.getElem?_eq_some_iff.1 hj).1
    rwa [flat_len KP_len] at this
  have hadd : (⟨g, off, none⟩ : Addr).add j = ⟨g, off + j, none⟩ := by unfold Addr.add; split <;> simp_all
  have hi : r[j / 2]? = some (r[j / 2]'(by omega)) := List.getElem?_eq_getElem _
  have h1 := (h.at hi).1
  have h2 := flat_get KP_len r (j / 2) _ (j % 2) hi (by omega)
  rw [show j / 2 * 2 + j % 2 = j by omega, hj] at h2
  have h3 := (cellsN_some.1 h1).2 (j % 2) (by omega)
  rw [hadd, show off + j = off + j / 2 * 2 + j % 2 by omega, h3, ← KP_back, List.getElem?_toArray]
  exact h2.symm
theorem wpAppP {ops : Array Oper} {rest : List Oper} {o : Oper} {a : Act} {w : World} {Q : Exit → Act → World → Prop} (s x : Operand) (hgd : o.guard = none)
    (ho : o.op = .call { callee := .builtin .append, args := #[s, x], argTypes := #[22, 22] })
    {Z : Nat} {v : Value} {l r : List Pr} {ad : Addr} {m c : Nat} (hown : OwnP w Z v l) (hs : a.eval s = v) (hx : a.eval x = .slice (some ad) m c) (hm : m = r.length) (hr : SlP w (some ad) r) (hlen : l.length + r.length ≤ 1000000) (hZ : Z ≤ w.heap.size)
    (h : ∀ v' w', OwnP w' Z v' (l ++ r) → Below Z w w' → wpList Tryd.prog ops Q rest (a.put o.dst v') w') : wpList Tryd.prog ops Q (o :: rest) a w := by
  subst hm
  refine wpApp appCell s x hgd ho hown hs ad r.length c (r.flatMap KP) hx (flat_len KP_len r) ?_ (KP_one r) (by unfold maxLen; omega) (by omega) hZ fun v' w' k1 k2 => ?_
  · rcases hr.out with rfl | ⟨g, off, hg, _, _⟩
    · intro j u hj; simp at hj
    · cases hg; exact slp_news hr
  · rw [← List.flatMap_append, ← List.length_append] at k1
    exact h v' w' k1 k2
theorem ownp_nil (w : World) (Z : Nat) : OwnP w Z (.slice none 0 0) [] := owns_nil _ _ _ _
theorem OwnP.ex {w w' : World} {Z : Nat} {v : Value} {l : List Pr} (h : OwnP w Z v l) (k : Ex w w') : OwnP w' Z v l := owns_ex h k
theorem OwnP.slg {w : World} {Z : Nat} {v : Value} {l : List Pr} (h : OwnP w Z v l) : ∃ a c, v = .slice a l.length c ∧ l.length ≤ c ∧ c ≤ maxLen ∧ (a = none → c = 0) ∧ SlP w a l := by
  obtain ⟨a, c, rfl, k1, k2, k3⟩ := own_form h
  refine ⟨a, c, rfl, k1, k2, k3, ?_⟩
  rcases Nat.eq_zero_or_pos l.length with h0 | hpos
  · rw [List.eq_nil_of_length_eq_zero h0]; exact SlP.nil _ _
  · obtain ⟨g, cap, cur, hv, _⟩ := own_block h hpos (by omega)
    obtain ⟨rfl, rfl⟩ : a = some ⟨g, 0, none⟩ ∧ c = cap := by simpa using hv
    refine ⟨Or.inr ⟨g, 0, rfl, (h.lt g rfl).2, fun i d hd => ?_⟩⟩
    have := (own_at KP_len h hd).1
    rw [KP_back] at this
    rwa [Nat.zero_add]
end Go.Proofs.YtcdocklbpfdmeaaDoor
