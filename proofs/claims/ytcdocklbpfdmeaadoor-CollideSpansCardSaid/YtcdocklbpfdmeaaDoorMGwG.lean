import Derived.Test.YtcdocklbpfdmeaaDoorMDoA
import Derived.Test.YtcdocklbpfdmeaaDoorMGwB

/- Collide's document: grow, where it ends. -/
set_option linter.unusedSimpArgs false
set_option linter.unusedVariables false
set_option linter.unnecessarySimpa false
set_option maxRecDepth 20000
namespace Go.Proofs.YtcdocklbpfdmeaaDoor
open Go.RowKit
theorem Cd.allocR {w : World} {p : Nat} {c : Cl} (h : Cd w p c) (o : Obj) : Cd (w.alloc o) p c := h.ex (ex_alloc (ex_refl _) _)
theorem Cd.wxR {w : World} {p : Nat} {c : Cl} (h : Cd w p c) (X : More) : Cd (wx w X) p c := h.ex ⟨X, rfl⟩
theorem Cd.drewR {w : World} {p : Nat} {c : Cl} (h : Cd w p c) : Cd w.drew p c := h.ex (ex_drew (ex_refl _))
theorem Cd.setsR {w : World} {p : Nat} {c : Cl} {r : Nat} (h : Cd w p c) (hr : IdB w r) (o : Nat) (vs : List Value) : Cd (w.setCells r o vs) p c := by
  obtain ⟨cs, fr, hr⟩ := hr.out
  exact h.frm (nod_id hr) (frm_sets o vs)
end Go.Proofs.YtcdocklbpfdmeaaDoor
