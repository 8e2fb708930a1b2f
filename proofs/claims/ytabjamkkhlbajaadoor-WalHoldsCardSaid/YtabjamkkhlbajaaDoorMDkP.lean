import Derived.Test.YtabjamkkhlbajaaDoorMDkN
import Derived.Shelf.RegionOpenPlain
import Derived.Maps.AppendAt
import Derived.Lib.LazyBuf
import Derived.Test.YtabjamkkhlbajaaDoorMDkM
import Derived.Test.YtabjamkkhlbajaaDoorMBuildK
import Derived.Test.YtabjamkkhlbajaaDoorMWords

/- Pending: the sectors of the writes that wait. -/
set_option linter.unusedSimpArgs false
set_option linter.unusedVariables false
set_option maxRecDepth 20000
namespace Go.Proofs.YtabjamkkhlbajaaDoor
open Go.RowKit
attribute [local go_sem] Oper.semAt_some
theorem own_form {w : World} {Z : Nat} {t : TypeId} {s : Nat} {v : Value} {n : Nat} {xs : List Value} (h : w.ownsRow Z t s v n xs) : ∃ a c, v = .slice a n c ∧ n ≤ c ∧ c ≤ maxLen ∧ (a = none → c = 0) := by
  rcases h.2 with ⟨rfl, rfl⟩ | ⟨g, cap, cur, rfl, h1, h2, h3, h4, h5, h6⟩
  · exact ⟨none, 0, rfl, by omega, by decide, fun _ => rfl⟩
  · exact ⟨_, cap, rfl, h3, h4, fun h => by cases h⟩
end Go.Proofs.YtabjamkkhlbajaaDoor

/- Pending. -/
set_option linter.unusedSimpArgs false
set_option linter.unusedVariables false
set_option maxRecDepth 20000
namespace Go.Proofs.YtabjamkkhlbajaaDoor
open Go.RowKit
attribute [local go_sem] Oper.semAt_some
theorem owns_lower {w : World} {Z Z' : Nat} {t : TypeId} {s : Nat} {v : Value} {n : Nat} {xs : List Value} (h : w.ownsRow Z t s v n xs) (hz : Z' ≤ Z) : w.ownsRow Z' t s v n xs := by
  refine ⟨h.1, ?_⟩
  rcases h.2 with h0 | ⟨g, cap, cur, h1, h2, h3⟩
  · exact Or.inl h0
  · exact Or.inr ⟨g, cap, cur, h1, Nat.le_trans hz h2, h3⟩
theorem owns_cells {w : World} {Z : Nat} {t : TypeId} {s : Nat} {v : Value} {n : Nat} {xs : List Value} (h : w.ownsRow Z t s v n xs) {j : Nat} {o : Obj} (hj : v.ownBlock = some j) (ho : w.heap[j]? = some o) : o.isCells = true := by
  rcases h.2 with ⟨rfl, _⟩ | ⟨g, cap, cur, rfl, _, hgb, _⟩
  · cases hj
  · obtain rfl : g = j := Option.some.inj hj
    rw [hgb] at ho
    obtain rfl := Option.some.inj ho
    rfl
end Go.Proofs.YtabjamkkhlbajaaDoor

/- Copy. -/
set_option linter.unusedSimpArgs false
set_option linter.unusedVariables false
set_option maxRecDepth 20000
namespace Go.Proofs.YtabjamkkhlbajaaDoor
open Go.RowKit
@[go_sem high] theorem eqlnil_put (a : Option Addr) (n c : Nat) (w : World) : (binOp .eql 87 (.slice a n c) (.slice none 0 0)).run Tryd.prog w = .ok (.bool a.isNone) w := _root_.Go.run_eql_slice_nil w _ _ a n c Tryd.underlying87
@[go_sem high] theorem eqlnil_bool (a : Option Addr) (n c : Nat) (w : World) : (binOp .eql 43 (.slice a n c) (.slice none 0 0)).run Tryd.prog w = .ok (.bool a.isNone) w := _root_.Go.run_eql_slice_nil w _ _ a n c Tryd.underlying43
end Go.Proofs.YtabjamkkhlbajaaDoor

/- Disks of a call's own; what the laws' wakes does. -/
set_option linter.unusedSimpArgs false
set_option linter.unusedVariables false
set_option maxRecDepth 20000
namespace Go.Proofs.YtabjamkkhlbajaaDoor
open Go.RowKit
/-- A disk of the call's own, behind a pointer. -/
structure DkO (w W : World) (p : Nat) (d : Dk) : Prop where
  ex : Ex w W
  out : ∃ L, L.p = p ∧ DkAt W L d ∧ ∀ b, L.own b → w.heap.size ≤ b
theorem DkO.turn {w W W' : World} {L L' : Loc} {p : Nat} {d' : Dk} (hw : Ex w W) (ho : ∀ b, L.own b → w.heap.size ≤ b) (hp : L.p = p) (hW : DkAt W' L' d') (hD : Dv L W L' W') : DkO w W' p d' :=
  ⟨ex_of_below ((ex_below hw).trans (hD.below (ex_size hw) ho)), L', hD.pp.trans hp, hW, fun b hb => (hD.own hb).elim (ho b) fun h => Nat.le_trans (ex_size hw) h⟩
theorem DkO.grow {w W W' : World} {p : Nat} {d : Dk} (h : DkO w W p d) (k : Ex W W') : DkO w W' p d := by
  obtain ⟨L, h1, h2, h3⟩ := h.out
  exact ⟨ex_trans h.ex k, L, h1, h2.ex k, h3⟩
/-- What turned it, and kept what was made since a moment. -/
def PostK (w W0 W : World) (p : Nat) (d' : Dk) (v : Value) (e : Ending) (w' : World) : Prop := e = .returned v ∧ DkO w w' p d' ∧ ∀ b, W0.heap.size ≤ b → b < W.heap.size → w'.heap[b]? = W.heap[b]?
theorem DkO.post {w W0 W w' : World} {L L' : Loc} {p : Nat} {d' : Dk} {v : Value} (hw : Ex w W) (ho : ∀ b, L.own b → w.heap.size ≤ b) (hlt : ∀ b, L.own b → b < W0.heap.size) (hp : L.p = p) (hW : DkAt w' L' d') (hD : Dv L W L' w') : PostK w W0 W p d' v (.returned v) w' :=
  ⟨rfl, DkO.turn hw ho hp hW hD, fun b h1 h2 => hD.same b h2 fun e => by have := hlt b e; omega⟩
section
variable {w W0 W : World} {p : Nat} {d : Dk}
end
def fiveB : Bk := ofBk fun i => if i = 0 then 5 else 0
def build1Run (P : Program) (t : TypeId) (v : Value) (w : World) : Result Next := ((Instr.build t #[(0, v)]).run P w).andThen fun x w' => .ok (.value x) w'
@[go_sem ↓ high] theorem run_build1_pre {P : Program} (ρ : Operand → Value) (d : Option Tmp) (t : TypeId) (x : Operand) (ty : TypeId) (pos : String) (aft : Array Edge) (g : Option (Nat × Bool)) (w : World) :
    Sem.run P (execOp ρ ⟨d, .build t #[(0, x)], ty, pos, aft, g⟩) w = build1Run P t (ρ x) w := by
  simp only [execOp, Sem.run_bind, Sem.run_pure, build1Run, List.map_toArray, List.map_cons, List.map_nil]
@[go_sem low] theorem build1Run_other {P : Program} (t : TypeId) (v : Value) (w : World) : build1Run P t v w = ((Instr.build t #[(0, v)]).run P w).andThen fun x w' => .ok (.value x) w' := rfl
theorem built_five : Tryd.prog.built 75 [(0, .int .u8 5)] = some (rowB 64 (bkF fiveB)) := by kernel_rfl
@[go_sem] theorem build1_five (w : World) : build1Run Tryd.prog 75 (.int .u8 5) w = .ok (.value (.agg (rowB 64 (bkF fiveB)))) w := by
  unfold build1Run
  rw [run_build w _ _ _ built_five]; rfl
end Go.Proofs.YtabjamkkhlbajaaDoor
