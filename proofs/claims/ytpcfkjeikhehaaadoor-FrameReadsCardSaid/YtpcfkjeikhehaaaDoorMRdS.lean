import Derived.Test.YtpcfkjeikhehaaaDoorMShS

/- Readers: the plain law of what they do, step by step. -/
set_option linter.unusedSimpArgs false
set_option linter.unusedVariables false
namespace Go.Proofs.YtpcfkjeikhehaaaDoor
/-- A reader's state: its place, its error, whether there was not what had to be. -/
structure Rs where
  pl : Nat
  er : Int
  bad : Bool
def failI (er e : Int) : Int := if er = 0 then e else er
def rawP (l : List UInt8) (n : Nat) (s : Rs) : List UInt8 × Rs :=
  if s.er = 0 ∧ n ≤ l.length - s.pl then ((l.drop s.pl).take n, { s with pl := s.pl + n }) else ([], { s with er := failI s.er 7 })
def u8P (l : List UInt8) (s : Rs) : UInt8 × Rs := (((rawP l 1 s).1)[0]?.getD 0, (rawP l 1 s).2)
def longN (o : Option (Nat × Nat)) : Nat × Nat := o.getD (0, 0)
def numP (l : List UInt8) (s : Rs) : Nat × Rs :=
  ((longN (longL (l.drop s.pl))).1, { pl := if s.er = 0 then s.pl + (longN (longL (l.drop s.pl))).2 else s.pl, er := s.er, bad := s.bad || (longL (l.drop s.pl)).isNone })
def manyP (l : List UInt8) (most : Nat) (s : Rs) : Nat × Rs :=
  if (numP l s).2.bad || decide (most < (numP l s).1) then (0, { (numP l s).2 with bad := true }) else (numP l s)
def voiceP (l : List UInt8) (s : Rs) (m : Ms) : Rs × Ms :=
  ({ (u8P l s).2 with bad := (u8P l s).2.bad || decide (1 < (u8P l s).1.toNat) }, { m with ok := decide ((u8P l s).1 = 1) })
def placeP (l : List UInt8) (s : Rs) (m : Ms) : Rs × Ms :=
  ((numP l (numP l s).2).2, { m with pi := UInt64.ofNat (numP l s).1, pt := UInt64.ofNat (numP l (numP l s).2).1 })
def agreedP (l : List UInt8) (s : Rs) (m : Ms) : Rs × Ms := ((numP l s).2, { m with cm := UInt64.ofNat (numP l s).1 })
def dataP (l : List UInt8) (s : Rs) (m : Ms) : Rs × Ms :=
  ((rawP l (manyP l 65536 s).1 (manyP l 65536 s).2).2, { m with da := (rawP l (manyP l 65536 s).1 (manyP l 65536 s).2).1 })
/-- One entry: the term behind it, the state, the entry. -/
def entP (l : List UInt8) (t : UInt64) (s : Rs) : En × Rs :=
  let s1 := (numP l s).2
  let t1 := t + UInt64.ofNat (numP l s).1
  let s2 := (u8P l s1).2
  let s3 := (manyP l 65536 s2)
  ((t1, ((u8P l s1).1.toNat : Int), (rawP l s3.1 s3.2).1), (rawP l s3.1 s3.2).2)
def entsP (l : List UInt8) : Nat → UInt64 → Rs → List En × Rs
  | 0, _, s => ([], s)
  | k + 1, t, s => ((entP l t s).1 :: (entsP l k (entP l t s).1.1 (entP l t s).2).1, (entsP l k (entP l t s).1.1 (entP l t s).2).2)
def entriesP (l : List UInt8) (s : Rs) (m : Ms) : Rs × Ms :=
  ((entsP l (manyP l 8 s).1 m.pt (manyP l 8 s).2).2, { m with es := m.es ++ (entsP l (manyP l 8 s).1 m.pt (manyP l 8 s).2).1 })
def bytesP (l : List UInt8) : Nat → Rs → List Int × Rs
  | 0, s => ([], s)
  | k + 1, s => (((u8P l s).1.toNat : Int) :: (bytesP l k (u8P l s).2).1, (bytesP l k (u8P l s).2).2)
def membersP (l : List UInt8) (s : Rs) (m : Ms) : Rs × Ms :=
  ((bytesP l (manyP l 5 s).1 (manyP l 5 s).2).2, { m with mb := m.mb ++ (bytesP l (manyP l 5 s).1 (manyP l 5 s).2).1 })
/-- The field of a number, if it counts. -/
def fieldP (l : List UInt8) (i : Nat) (x : Rs × Ms) : Rs × Ms :=
  if i = 0 then (if hasO x.2.kd then voiceP l x.1 x.2 else x)
  else if i = 1 then (if hasP x.2.kd then placeP l x.1 x.2 else x)
  else if i = 2 then (if hasC x.2.kd then agreedP l x.1 x.2 else x)
  else if i = 3 then (if hasE x.2.kd then entriesP l x.1 x.2 else x)
  else if i = 4 then (if hasM x.2.kd then membersP l x.1 x.2 else x)
  else if i = 5 then (if hasD x.2.kd then dataP l x.1 x.2 else x) else x
def noM : Ms := ⟨0, 0, 0, 0, 0, 0, [], 0, false, [], []⟩
def headP (l : List UInt8) : Rs × Ms :=
  let a := u8P l ⟨0, 0, false⟩
  let b := u8P l a.2
  let c := numP l b.2
  (c.2, { noM with kd := a.1.toNat, fr := (b.1.toNat / 16 : Nat), to := (b.1.toNat % 16 : Nat), tm := UInt64.ofNat c.1 })
def fieldsP (l : List UInt8) : Nat → Rs × Ms → Rs × Ms
  | 0, x => x
  | k + 1, x => fieldP l k (fieldsP l k x)
def readP (l : List UInt8) : Ms :=
  let a := u8P l ⟨0, 0, false⟩
  if a.1.toNat < 1 ∨ 5 < a.1.toNat then { noM with kd := a.1.toNat } else (fieldsP l 6 (headP l)).2
/-! ### Places stay within the bytes -/
theorem longGo_le : ∀ (l : List UInt8) (x i : Nat), ∀ r, longGo l x i = some r → r.2 ≤ i + l.length ∧ (x ≤ 18446744073709551615 → r.1 < 18446744073709551616)
  | [], x, i, r, h => by simp [longGo] at h
  | c :: l, x, i, r, h => by
    rw [longGo_cons] at h
    split at h
    · cases h
    · rename_i hx
      split at h
      · have := Option.some.inj h
        subst this
        simp only [List.length_cons]
        refine ⟨by omega, fun _ => by omega⟩
      · have := longGo_le l (128 * x + c.toNat % 128) (i + 1) r h
        simp only [List.length_cons]
        exact ⟨by omega, fun _ => this.2 (by omega)⟩
theorem longN_le (l : List UInt8) : (longN (longL l)).2 ≤ l.length ∧ (longN (longL l)).1 < 18446744073709551616 := by
  unfold longN
  cases h : longL l with
  | none => simp
  | some r => have := longGo_le l 0 0 r h; exact ⟨by simpa using this.1, this.2 (by omega)⟩
theorem num_lt (l : List UInt8) (s : Rs) : (numP l s).1 < 18446744073709551616 := (longN_le _).2
theorem num_pl {l : List UInt8} {s : Rs} (h : s.pl ≤ l.length) : (numP l s).2.pl ≤ l.length := by
  have := (longN_le (l.drop s.pl)).1
  rw [List.length_drop] at this
  unfold numP
  simp only
  split <;> omega
theorem raw_pl {l : List UInt8} {n : Nat} {s : Rs} (h : s.pl ≤ l.length) : (rawP l n s).2.pl ≤ l.length := by
  unfold rawP; split
  · rename_i h2; have := h2.2; simp only; omega
  · exact h
theorem many_pl {l : List UInt8} {n : Nat} {s : Rs} (h : s.pl ≤ l.length) : (manyP l n s).2.pl ≤ l.length := by
  unfold manyP; split
  · exact num_pl h
  · exact num_pl h
theorem many_le (l : List UInt8) (n : Nat) (s : Rs) : (manyP l n s).1 ≤ n := by
  unfold manyP; split
  · simp
  · rename_i h
    simp only [Bool.or_eq_true, decide_eq_true_eq, not_or, Nat.not_lt] at h
    exact h.2
end Go.Proofs.YtpcfkjeikhehaaaDoor
