/- A scope that is jumped in once. Over whatever program. -/
import Derived.Test.YtbobamifpjlmiaaDoorDraw
import Derived.ScopeJumps
import Derived.WalkMore
set_option linter.unusedSimpArgs false
set_option linter.unusedVariables false
namespace Go.Proofs.YtbobamifpjlmiaaDoor
open Go.RowKit
section
variable {P : Program} {Q : Exit → Act → World → Prop} {J : Act → World → Prop} {a : Act} {w : World}
@[go_sem] theorem jump_normal (l : Nat) : Exit.jump l J Q .normal a w = Q .normal a w := rfl
@[go_sem] theorem jump_exit (l id : Nat) : Exit.jump l J Q (.exit id) a w = Q (.exit id) a w := rfl
@[go_sem] theorem jump_ret (l : Nat) : Exit.jump l J Q .ret a w = Q .ret a w := rfl
@[go_sem] theorem jump_panic (l : Nat) (ch : List PanicEntry) : Exit.jump l J Q (.panic ch) a w = Q (.panic ch) a w := rfl
theorem jump_goto (l : Nat) (h : J a w) : Exit.jump l J Q (.goto l) a w := ⟨rfl, h⟩
theorem wp_scope_once {c rest : Code} (l : Nat) (hf : findLabel c l = some rest) (h : c.wp P (Exit.jump l (fun a w => rest.wp P (Exit.jump l (fun _ _ => False) Q) a w) Q) a w) : (Code.scope c).wp P Q a w := by
  refine wp_scope_jumps l _ (fun _ _ => 0) hf h fun a w hJ => ?_
  refine wp_mono hJ fun e a' w' he => ?_
  cases e with
  | goto l' => exact he.2.elim
  | _ => exact he
/-- A call that leaves all as it is, as one step of a region that draws. -/
theorem step_call {ops : Array Oper} {o : Oper} {K : Act → World → Prop} {f : FuncId} {args : Array Value} {v : Value} (hg : o.guard = none) (hrun : (execOp a.eval o).run P w = .ok (.enter f args) w)
    (hc : Calls P f args w (fun e w' => e = .returned v ∧ w = w')) (h : K (a.put o.dst v) w) : (if Region.wanted o (yielded ops a.tmps) = true then Oper.wp P o a w K Q else K (a.put o.dst undef) w) := by
  rw [if_pos (by simp [Region.wanted, hg])]
  unfold Oper.wp
  rw [hrun, Oper.upon_enter]
  refine hc.mono fun e w'' hh => ?_
  obtain ⟨rfl, rfl⟩ := hh
  exact h
end
end Go.Proofs.YtbobamifpjlmiaaDoor
