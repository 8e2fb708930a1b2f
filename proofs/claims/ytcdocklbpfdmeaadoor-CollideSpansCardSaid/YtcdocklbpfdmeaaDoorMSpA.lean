import Derived.Test.YtcdocklbpfdmeaaDoorMPrv
import Derived.Test.YtcdocklbpfdmeaaDoorMLbA
import Derived.Test.YtcdocklbpfdmeaaDoorMRtA

/- Collide: spans, the plain law: which are accepted, their clash, what it tells; by the whole width they are the search's. -/
set_option linter.unusedSimpArgs false
set_option linter.unusedVariables false
set_option linter.unnecessarySimpa false
set_option maxRecDepth 20000
namespace Go.Proofs.YtcdocklbpfdmeaaDoor
open Go.RowKit
/-- Do a span's ends say that nothing else stands in the range? -/
def endC (r : Rg) (T F : Int) (ps : List Pr) : Bool :=
  decide (ps.length = 0) || ((decide (F = 0) || ltS (keyAt ps 0) r.lo) && (decide (F + ps.length = T) || (!ltS (keyAt ps (ps.length - 1)) r.lo && !inP r (keyAt ps (ps.length - 1)))))
def formC (r : Rg) (T F : Int) (ps : List Pr) : Bool := decide (okS T F ps) && (decide (0 < ps.length) || decide (T = 0)) && endC r T F ps
/-- What the top of a span is, with what is left of its path, and the clash. -/
def spanTop (S : List UInt8 → Dg) (l : List Pr) (T F : Int) (ps : List Pr) (qs : List Dg) : Option (Dg × List Dg × Cl) :=
  if T = 0 then some (zeroD, qs, none) else spanC S zeroD leafL F.toNat ps 0 T.toNat qs (if T = l.length then l else []) none
def outS (S : List UInt8 → Dg) (is : List UInt8) (T : Nat) : Option (Dg × List Dg × Cl) → Bool × Cl
  | none => (false, none)
  | some (t, q, c) => if q = [] then (decide (S (crownL T t) = S is), (putC S (crownL T t) is c).2) else (false, c)
def isL (S : List UInt8 → Dg) (l : List Pr) : List UInt8 := crownL l.length (topC S zeroD leafL l)
/-- Whether a span is accepted, and its first clash. -/
def spansC (W : Int) (l : List Pr) (r : Rg) (T F : Int) (ps : List Pr) (qs : List Dg) : Bool × Cl :=
  if rightP l = true ∧ formC r T F ps = true ∧ 0 ≤ W ∧ W ≤ 256 then outS (sumW W.toNat) (isL (sumW W.toNat) l) T.toNat (spanTop (sumW W.toNat) l T F ps qs) else (false, none)
/-- The clash of a span. -/
def spanT (W : Int) (l : List Pr) (r : Rg) (T F : Int) (ps : List Pr) (qs : List Dg) : Cl :=
  tellC ((spansC W l r T F ps qs).1 && !decide ((ps.filter fun p => inP r p.1) = l.filter fun p => inP r p.1)) (spansC W l r T F ps qs).2
theorem spans_true {W : Int} {l : List Pr} {r : Rg} {T F : Int} {ps : List Pr} {qs : List Dg} (h : (spansC W l r T F ps qs).1 = true) : rightP l = true ∧ formC r T F ps = true ∧ 0 ≤ W ∧ W ≤ 256 := by
  unfold spansC at h
  split at h
  · assumption
  · cases h
theorem form_ok {r : Rg} {T F : Int} {ps : List Pr} (h : formC r T F ps = true) : okS T F ps ∧ (0 < ps.length ∨ T = 0) ∧ endC r T F ps = true := by
  unfold formC at h
  simp only [Bool.and_eq_true, Bool.or_eq_true, decide_eq_true_eq] at h
  exact ⟨h.1.1, h.1.2, h.2⟩
theorem right_len2 {l : List Pr} (h : rightP l = true) : l.length ≤ 200 := by
  refine Classical.byContradiction fun hn => ?_
  have := right_iff.1 h 200 (by omega)
  unfold badAt at this
  simp at this
attribute [local irreducible] sumD
end Go.Proofs.YtcdocklbpfdmeaaDoor
