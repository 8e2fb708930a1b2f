import Derived.Test.YtcdocklbpfdmeaaDoorMMix
import GoSem.Op.String

/- Search: pairs, their order, their digests. The plain law. -/
set_option linter.unusedSimpArgs false
set_option linter.unusedVariables false
namespace Go.Proofs.YtcdocklbpfdmeaaDoor
abbrev Pr := ByteArray × ByteArray
abbrev ltS (a b : ByteArray) : Bool := Op.bytesLess a.toList b.toList
abbrev eqS (a b : ByteArray) : Bool := a.toList == b.toList
theorem bl_le : ∀ x y : List UInt8, (Op.bytesLess x y || x == y) = !Op.bytesLess y x
  | [], [] => rfl
  | [], _ :: _ => rfl
  | _ :: _, [] => rfl
  | a :: x, b :: y => by
    have ih := bl_le x y
    simp only [Op.bytesLess, List.cons_beq_cons]
    by_cases h1 : a < b
    · have h2 : ¬ b < a := UInt8.lt_asymm h1
      have h3 : (b == a) = false := by rw [beq_eq_false_iff_ne]; intro h; subst h; exact h2 h1
      simp [h1, h2, h3]
    · by_cases h4 : b < a
      · have h3 : (a == b) = false := by rw [beq_eq_false_iff_ne]; intro h; subst h; exact h1 h4
        simp [h1, h4, h3]
      · have h5 : a = b := UInt8.le_antisymm (UInt8.not_lt.1 h4) (UInt8.not_lt.1 h1)
        subst h5
        simpa [h1] using ih
theorem leS (a b : ByteArray) : (ltS a b || eqS a b) = !ltS b a := bl_le _ _
theorem bl_irr : ∀ x : List UInt8, Op.bytesLess x x = false
  | [] => rfl
  | a :: x => by simp [Op.bytesLess, bl_irr x]
theorem bl_trans : ∀ x y z : List UInt8, Op.bytesLess x y = true → Op.bytesLess y z = true → Op.bytesLess x z = true
  | _, _, [], _, h => by cases h2 : (‹List UInt8›) <;> simp_all [Op.bytesLess]
  | [], _, _ :: _, _, _ => rfl
  | _ :: _, [], _ :: _, h, _ => by simp [Op.bytesLess] at h
  | a :: x, b :: y, c :: z, h1, h2 => by
    simp only [Op.bytesLess, Bool.or_eq_true, decide_eq_true_eq, Bool.and_eq_true, beq_iff_eq] at h1 h2 ⊢
    rcases h1 with h1 | ⟨rfl, h1⟩
    · rcases h2 with h2 | ⟨rfl, h2⟩
      · exact .inl (UInt8.lt_trans h1 h2)
      · exact .inl h1
    · rcases h2 with h2 | ⟨rfl, h2⟩
      · exact .inl h2
      · exact .inr ⟨rfl, bl_trans x y z h1 h2⟩
theorem ltS_irr (a : ByteArray) : ltS a a = false := bl_irr _
theorem ltS_trans {a b c : ByteArray} (h1 : ltS a b = true) (h2 : ltS b c = true) : ltS a c = true := bl_trans _ _ _ h1 h2
/-- a ≤ b < c, a < b ≤ c. -/
theorem ltS_le {a b c : ByteArray} (h1 : ltS b a = false) (h2 : ltS b c = true) : ltS a c = true := by
  have := leS a b
  rw [h1] at this
  simp only [Bool.not_false, Bool.or_eq_true, beq_iff_eq] at this
  rcases this with h | h
  · exact ltS_trans h h2
  · unfold ltS; rw [h]; exact h2
theorem leS_lt {a b c : ByteArray} (h1 : ltS a b = true) (h2 : ltS c b = false) : ltS a c = true := by
  have := leS b c
  rw [h2] at this
  simp only [Bool.not_false, Bool.or_eq_true, beq_iff_eq] at this
  rcases this with h | h
  · exact ltS_trans h1 h
  · unfold ltS; rw [← h]; exact h1
/-- A pair of a row may be. -/
def prAt (l : List Pr) (i : Nat) : Pr := l.getD i default
def badAt (l : List Pr) (i : Nat) : Bool :=
  decide ((prAt l i).1.size < 1) || decide (200 < (prAt l i).1.size) || decide (1000 < (prAt l i).2.size) || (decide (0 < i) && !ltS (prAt l (i - 1)).1 (prAt l i).1) || decide (i = 200)
def rightP (l : List Pr) : Bool := (List.range l.length).all fun i => !badAt l i
theorem right_iff {l : List Pr} : rightP l = true ↔ ∀ i, i < l.length → badAt l i = false := by simp [rightP]
theorem right_bad {l : List Pr} {i : Nat} (hi : i < l.length) (h : badAt l i = true) : rightP l = false := by
  cases hr : rightP l with
  | false => rfl
  | true => rw [right_iff.1 hr i hi] at h; cases h
/-- Does a key stand in a range? -/
structure Rg where
  lo : ByteArray
  hi : ByteArray
  op : Bool
def inP (r : Rg) (k : ByteArray) : Bool := !ltS k r.lo && (r.op || ltS k r.hi)
/-- The bytes of a number, the highest first. -/
def hiL (x n : Nat) : List UInt8 := (List.range n).map fun j => UInt8.ofNat (x / 256 ^ (n - 1 - j))
theorem hiL_len (x n : Nat) : (hiL x n).length = n := by simp [hiL]
def someL (s : ByteArray) : List UInt8 := hiL (min s.size 65535) 2 ++ s.data.toList.take 65535
def leafL (p : Pr) : List UInt8 := [0] ++ someL p.1 ++ someL p.2
def leafP (p : Pr) : Dg := sumD (leafL p)
def crownD (n : Int) (d : Dg) : Dg := sumD ([2] ++ hiL (n % 4294967296).toNat 4 ++ bytesD d)
def topP (l : List Pr) : Dg := if l.length = 0 then zeroD else rootD (l.map leafP)
def rootP (l : List Pr) : Dg := crownD l.length (topP l)
end Go.Proofs.YtcdocklbpfdmeaaDoor
