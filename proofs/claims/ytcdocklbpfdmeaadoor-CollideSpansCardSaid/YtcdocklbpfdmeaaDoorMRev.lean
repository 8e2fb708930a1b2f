import Derived.Test.YtcdocklbpfdmeaaDoorMOwn
import Derived.Test.YtcdocklbpfdmeaaDoorMDg
import Derived.Test.YtcdocklbpfdmeaaDoorMSeq
import Derived.Shelf.RegionOpenPlain

/- slices.Reverse of digests and of bools; own slices of both. -/
set_option linter.unusedSimpArgs false
set_option linter.unusedVariables false
set_option maxRecDepth 20000
namespace Go.Proofs.YtcdocklbpfdmeaaDoor
open Go.RowKit
def KD (d : Dg) : List Value := (rowB 32 (dF d)).toList
def KB (b : Bool) : List Value := [.bool b]
theorem KD_len (d : Dg) : (KD d).length = 32 := by simp [KD]
@[go_sem] theorem KD_back (d : Dg) : (KD d).toArray = rowB 32 (dF d) := by simp [KD]
/-- A row of digests of the call's own. -/
def OwnD (w : World) (Z : Nat) (v : Value) (l : List Dg) : Prop := w.ownsRow Z 46 32 v l.length (l.flatMap KD)
def OwnB (w : World) (Z : Nat) (v : Value) (l : List Bool) : Prop := w.ownsRow Z 4 1 v l.length (l.flatMap KB)
theorem own_form {w : World} {Z : Nat} {t : TypeId} {s : Nat} {v : Value} {n : Nat} {xs : List Value} (h : w.ownsRow Z t s v n xs) : ∃ a c, v = .slice a n c ∧ n ≤ c ∧ c ≤ maxLen ∧ (a = none → c = 0) := by
  rcases h.2 with ⟨rfl, rfl⟩ | ⟨g, cap, cur, rfl, h1, h2, h3, h4, h5, h6⟩
  · exact ⟨none, 0, rfl, by omega, by decide, fun _ => rfl⟩
  · exact ⟨_, cap, rfl, h3, h4, fun h => by cases h⟩
end Go.Proofs.YtcdocklbpfdmeaaDoor

/- Digests, bools behind a row of the call's own. -/
set_option linter.unusedSimpArgs false
set_option linter.unusedVariables false
set_option maxRecDepth 20000
namespace Go.Proofs.YtcdocklbpfdmeaaDoor
open Go.RowKit
theorem appId : AppT Tryd.prog 25 46 32 32 (.agg (rowB 32 fun _ => 0)) := ⟨Tryd.underlying25, by kernel_rfl, by simp [Value.cells], by decide⟩
theorem KD_one (l : List Dg) : ∀ u ∈ l.flatMap KD, u.oneCell' = true := by
  intro u hu
  simp only [List.mem_flatMap] at hu
  obtain ⟨d, _, hd⟩ := hu
  unfold KD at hd
  rw [rowB_bytes] at hd
  exact bytes_one _ u hd
theorem sld_news {w : World} {g off : Nat} {r : List Dg} (h : SlD w (some ⟨g, off, none⟩) r) : ∀ (j : Nat) (u : Value), (r.flatMap KD)[j]? = some u → w.cell? ((⟨g, off, none⟩ : Addr).add j) = some u := by
  intro j u hj
  have hlt : j < r.length * 32 := by
    have := (List.getElem?_eq_some_iff.1 hj).1
    rwa [flat_len KD_len] at this
  have hadd : (⟨g, off, none⟩ : Addr).add j = ⟨g, off + j, none⟩ := by unfold Addr.add; split <;> simp_all
  have hi : r[j / 32]? = some (r[j / 32]'(by omega)) := List.getElem?_eq_getElem _
  have h1 := (h.at hi).1
  have h2 := flat_get KD_len r (j / 32) _ (j % 32) hi (by omega)
  rw [show j / 32 * 32 + j % 32 = j by omega, hj] at h2
  have h3 := (cellsN_some.1 h1).2 (j % 32) (by omega)
  rw [hadd, show off + j = off + j / 32 * 32 + j % 32 by omega, h3]
  unfold KD at h2
  rw [Array.getElem?_toList] at h2
  exact h2.symm
theorem wpAppD {ops : Array Oper} {rest : List Oper} {o : Oper} {a : Act} {w : World} {Q : Exit → Act → World → Prop} (s x : Operand) (hgd : o.guard = none)
    (ho : o.op = .call { callee := .builtin .append, args := #[s, x], argTypes := #[25, 25] })
    {Z : Nat} {v : Value} {l r : List Dg} {g off m c : Nat} (hown : OwnD w Z v l) (hs : a.eval s = v) (hx : a.eval x = .slice (some ⟨g, off, none⟩) m c) (hm : m = r.length) (hr : SlD w (some ⟨g, off, none⟩) r) (hlen : l.length + r.length ≤ 1000000) (hZ : Z ≤ w.heap.size)
    (h : ∀ v' w', OwnD w' Z v' (l ++ r) → Below Z w w' → wpList Tryd.prog ops Q rest (a.put o.dst v') w') : wpList Tryd.prog ops Q (o :: rest) a w := by
  subst hm
  refine wpApp appId s x hgd ho hown hs ⟨g, off, none⟩ r.length c (r.flatMap KD) hx (flat_len KD_len r) (sld_news hr) (KD_one r) (by unfold maxLen; omega) (by omega) hZ fun v' w' k1 k2 => ?_
  rw [← List.flatMap_append, ← List.length_append] at k1
  exact h v' w' k1 k2
theorem sld_one {w w' : World} {g : Nat} (d : Dg) (k : Ex (w.alloc (.cells (rowB 32 (dF d)) 46)) w') (hg : g = w.heap.size) : SlD w' (some ⟨g, 0, none⟩) [d] := by
  subst hg
  have hb := ex_block k (heap_alloc_new w _)
  refine ⟨Or.inr ⟨_, 0, rfl, (Array.getElem?_eq_some_iff.1 hb).1, fun i e he => ?_⟩⟩
  have hi : i = 0 := by
    have := (List.getElem?_eq_some_iff.1 he).1
    simpa using this
  subst hi
  obtain rfl : d = e := by simpa using he
  refine cellsN_some.2 ⟨by simp, fun j hj => ?_⟩
  rw [Nat.zero_mul, Nat.add_zero, Nat.zero_add, cell_of_row _ w.heap.size j _ _ _ hb]
theorem OwnD.ex {w w' : World} {Z : Nat} {v : Value} {l : List Dg} (h : OwnD w Z v l) (k : Ex w w') : OwnD w' Z v l := owns_ex h k
theorem OwnD.slg {w : World} {Z : Nat} {v : Value} {l : List Dg} (h : OwnD w Z v l) : ∃ a c, v = .slice a l.length c ∧ l.length ≤ c ∧ c ≤ maxLen ∧ (a = none → c = 0) ∧ SlD w a l := by
  obtain ⟨a, c, rfl, k1, k2, k3⟩ := own_form h
  refine ⟨a, c, rfl, k1, k2, k3, ?_⟩
  rcases Nat.eq_zero_or_pos l.length with h0 | hpos
  · rw [List.eq_nil_of_length_eq_zero h0]; exact SlD.nil _ _
  · obtain ⟨g, cap, cur, hv, _⟩ := own_block h hpos (by omega)
    obtain ⟨rfl, rfl⟩ : a = some ⟨g, 0, none⟩ ∧ c = cap := by simpa using hv
    refine ⟨Or.inr ⟨g, 0, rfl, (h.lt g rfl).2, fun i d hd => ?_⟩⟩
    have := (own_at KD_len h hd).1
    rw [KD_back] at this
    rwa [Nat.zero_add]
/-- What hands back digests of the call's own. -/
def PostO (W : World) (l : List Dg) (e : Ending) (w' : World) : Prop := ∃ v, e = .returned v ∧ OwnD w' W.heap.size v l ∧ ∃ X, w' = wx W X
/-- A result in memory, and one beside it. -/
theorem ret_rowV {P : Program} {fn : Func} {p q : Tmp} {ty : TypeId} {d : TypeDesc} {n b : Nat} {cs : Array Value} {v : Value} {R : Ending → World → Prop} {a : Act} {w : World} (h : fn.results = #[.cell p ty, .tmp q])
    (hu : P.underlying ty = some d) (hd : d.isRow = true) (hi : (P.info? ty).map (·.size) = some n) (hp : a.tmps.getD p undef = .pointer (some ⟨b, 0, none⟩)) (hc : cellsN w b 0 n = some cs) (hq : a.tmps.getD q undef = v) (hdf : a.defers = [])
    (hR : R (.returned (.tuple #[.agg cs, v])) w) : bodyPost P fn R .ret a w := by
  have h1 := (cellsN_some.1 hc).1
  have hrun := run_loadVar_mid (P := P) w b 0 ty cs.toList d (cellsN_range hc) hu hd (by rw [hi]; simp [h1])
  have hp' : a.tmps[p]?.getD undef = .pointer (some ⟨b, 0, none⟩) := by simpa using hp
  have hq' : a.tmps[q]?.getD undef = v := by simpa using hq
  exact bodyPost_ret (by simp [results, h, hp', hq', asAddr, hrun]) hdf hR
/-! ### A slice of one digest -/
def buildRun (P : Program) (t : TypeId) (v : Value) (w : World) : Result Next := ((Instr.buildSlice t 1 #[(0, v)]).run P w).andThen fun x w' => .ok (.value x) w'
@[go_sem ↓ high] theorem run_build_pre {P : Program} (ρ : Operand → Value) (d : Option Tmp) (t : TypeId) (x : Operand) (ty : TypeId) (pos : String) (aft : Array Edge) (g : Option (Nat × Bool)) (w : World) :
    Sem.run P (execOp ρ ⟨d, .buildSlice t 1 #[(0, x)], ty, pos, aft, g⟩) w = buildRun P t (ρ x) w := by
  simp only [execOp, Sem.run_bind, Sem.run_pure, buildRun, List.map_toArray, List.map_cons, List.map_nil]
@[go_sem low] theorem buildRun_other {P : Program} (t : TypeId) (v : Value) (w : World) : buildRun P t v w = ((Instr.buildSlice t 1 #[(0, v)]).run P w).andThen fun x w' => .ok (.value x) w' := rfl
theorem fill_id (f : Nat → UInt8) : Array.foldl (fun (cs : Array Value) (x : Value × Nat) => cs.setIfInBounds x.2 x.1) #[B 0, B 0, B 0, B 0, B 0, B 0, B 0, B 0, B 0, B 0, B 0, B 0, B 0, B 0, B 0, B 0, B 0, B 0, B 0, B 0, B 0, B 0, B 0, B 0, B 0, B 0, B 0, B 0, B 0, B 0, B 0, B 0] (rowB 32 f).zipIdx 0 32 = rowB 32 f := by
  kernel_rfl
@[go_sem] theorem buildRun_id (f : Nat → UInt8) (w : World) : buildRun Tryd.prog 25 (.agg (rowB 32 f)) w = .ok (.value (.slice (some ⟨w.heap.size, 0, none⟩) 1 1)) (w.alloc (.cells (rowB 32 f) 46)) := by
  unfold buildRun
  have hi : (Tryd.prog.info? 46).map (fun i => (i.zero, i.size)) = some (some (.agg (rowB 32 fun _ => 0)), 32) := by kernel_rfl
  obtain ⟨i, hi1, hi2⟩ := Option.map_eq_some_iff.1 hi
  simp only [Prod.mk.injEq] at hi2
  simp [Instr.buildSlice, run_underlying Tryd.underlying25, Go.sizeOf, typeInfo, zeroValue, hi1, hi2.1, hi2.2, Instr.fill, Value.cells, newRow, go_sem]
  exact congrArg (fun c => w.alloc (.cells c 46)) (fill_id f)
end Go.Proofs.YtcdocklbpfdmeaaDoor

/- Root, Path, Proof. -/
set_option linter.unusedSimpArgs false
set_option linter.unusedVariables false
set_option maxRecDepth 20000
namespace Go.Proofs.YtcdocklbpfdmeaaDoor
open Go.RowKit
def sliceLen (v : Value) : Nat := match v with | .slice _ n _ => n | _ => 0
@[go_sem] theorem sliceLen_slice (a : Option Addr) (n c : Nat) : sliceLen (.slice a n c) = n := rfl
end Go.Proofs.YtcdocklbpfdmeaaDoor

/- Path, Proof of the document; Same. -/
set_option linter.unusedSimpArgs false
set_option linter.unusedVariables false
set_option maxRecDepth 20000
namespace Go.Proofs.YtcdocklbpfdmeaaDoor
open Go.RowKit
end Go.Proofs.YtcdocklbpfdmeaaDoor

/- The ways: sides, steps; over. -/
set_option linter.unusedSimpArgs false
set_option linter.unusedVariables false
set_option maxRecDepth 20000
namespace Go.Proofs.YtcdocklbpfdmeaaDoor
open Go.RowKit
theorem OwnB.ex {w w' : World} {Z : Nat} {v : Value} {l : List Bool} (h : OwnB w Z v l) (k : Ex w w') : OwnB w' Z v l := owns_ex h k
end Go.Proofs.YtcdocklbpfdmeaaDoor
