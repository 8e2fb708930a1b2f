import Derived.Test.YtpcfkjeikhehaaaDoorMMix

/- A list that only grows, under one digest: roots, paths, proofs, in plain Lean. -/
set_option linter.unusedSimpArgs false
set_option linter.unusedVariables false
namespace Go.Proofs.YtpcfkjeikhehaaaDoor
/-! ### Digests -/
abbrev Dg := Vector UInt8 32
/-- A list of bytes as what stands at a place. -/
def gF (l : List UInt8) : Nat → UInt8 := fun i => l.getD i 0
def ofF (f : Nat → UInt8) : Dg := Vector.ofFn fun i : Fin 32 => f i.val
def dF (d : Dg) : Nat → UInt8 := fun i => d.toArray.getD i 0
def sumD (l : List UInt8) : Dg := ofF (sumF (gF l) l.length)
theorem dF_ofF (f : Nat → UInt8) (i : Nat) (h : i < 32) : dF (ofF f) i = f i := by
  simp [dF, ofF, Array.getD_eq_getD_getElem?, h]
theorem dF_inj {d d' : Dg} (h : ∀ i, i < 32 → dF d i = dF d' i) : d = d' := by
  apply Vector.ext
  intro i hi
  have := h i hi
  simpa [dF, Array.getD_eq_getD_getElem?, hi] using this
def bytesD (d : Dg) : List UInt8 := (List.range 32).map (dF d)
theorem bytesD_len (d : Dg) : (bytesD d).length = 32 := by simp [bytesD]
def zeroD : Dg := ofF fun _ => 0
def leafD (b : List UInt8) : Dg := sumD (0 :: b)
def nodeD (a b : Dg) : Dg := sumD (1 :: (bytesD a ++ bytesD b))
/-! ### Halves -/
def splitN (n : Nat) : Nat := 2 ^ Nat.log2 (n - 1)
theorem split_pos (n : Nat) : 0 < splitN n := Nat.two_pow_pos _
theorem split_lt {n : Nat} (h : 2 ≤ n) : splitN n < n := by
  have := Nat.log2_self_le (n := n - 1) (by omega)
  unfold splitN; omega
theorem split_ge {n : Nat} (h : 2 ≤ n) : n ≤ 2 * splitN n := by
  have := Nat.lt_log2_self (n := n - 1)
  unfold splitN; rw [Nat.pow_succ] at this; omega
theorem split_uniq {n j : Nat} (h1 : 2 ^ j < n) (h2 : n ≤ 2 * 2 ^ j) : splitN n = 2 ^ j := by
  unfold splitN
  congr 1
  rw [Nat.log2_eq_iff (by omega)]
  rw [Nat.pow_succ]; omega
theorem split_same {n m : Nat} (h : 2 ≤ n) (h1 : splitN n < m) (h2 : m ≤ n) : splitN m = splitN n := by
  have := split_ge h
  unfold splitN at h1 this ⊢
  exact split_uniq h1 (by omega)
/-! ### Roots, paths, proofs -/
def rootD (l : List Dg) : Dg :=
  if h : l.length < 2 then l.headD (sumD []) else
    have h1 := split_lt (n := l.length) (by omega)
    have h2 := split_pos l.length
    nodeD (rootD (l.take (splitN l.length))) (rootD (l.drop (splitN l.length)))
termination_by l.length
decreasing_by
  · rw [List.length_take]; omega
  · rw [List.length_drop]; omega
theorem root_nil : rootD [] = sumD [] := by rw [rootD]; simp
theorem root_one (x : Dg) : rootD [x] = x := by rw [rootD]; simp
theorem root_two {l : List Dg} (h : 2 ≤ l.length) : rootD l = nodeD (rootD (l.take (splitN l.length))) (rootD (l.drop (splitN l.length))) := by
  rw [rootD, dif_neg (by omega)]
def pathD (l : List Dg) (i : Nat) : List Dg :=
  if h : l.length < 2 then [] else
    have h1 := split_lt (n := l.length) (by omega)
    have h2 := split_pos l.length
    if i < splitN l.length then pathD (l.take (splitN l.length)) i ++ [rootD (l.drop (splitN l.length))]
    else pathD (l.drop (splitN l.length)) (i - splitN l.length) ++ [rootD (l.take (splitN l.length))]
termination_by l.length
decreasing_by
  · rw [List.length_take]; omega
  · rw [List.length_drop]; omega
theorem path_one {l : List Dg} (h : l.length < 2) (i : Nat) : pathD l i = [] := by rw [pathD, dif_pos h]
theorem path_lo {l : List Dg} (h : 2 ≤ l.length) {i : Nat} (hi : i < splitN l.length) : pathD l i = pathD (l.take (splitN l.length)) i ++ [rootD (l.drop (splitN l.length))] := by
  rw [pathD, dif_neg (by omega), if_pos hi]
theorem path_hi {l : List Dg} (h : 2 ≤ l.length) {i : Nat} (hi : ¬ i < splitN l.length) : pathD l i = pathD (l.drop (splitN l.length)) (i - splitN l.length) ++ [rootD (l.take (splitN l.length))] := by
  rw [pathD, dif_neg (by omega), if_neg hi]
def proofD (l : List Dg) (m : Nat) (known : Bool) : List Dg :=
  if h : l.length ≤ m ∨ l.length < 2 then (if known then [] else [rootD l]) else
    have h1 := split_lt (n := l.length) (by omega)
    have h2 := split_pos l.length
    if m ≤ splitN l.length then proofD (l.take (splitN l.length)) m known ++ [rootD (l.drop (splitN l.length))]
    else proofD (l.drop (splitN l.length)) (m - splitN l.length) false ++ [rootD (l.take (splitN l.length))]
termination_by l.length
decreasing_by
  · rw [List.length_take]; omega
  · rw [List.length_drop]; omega
theorem proof_all (l : List Dg) (known : Bool) : proofD l l.length known = if known then [] else [rootD l] := by rw [proofD, dif_pos (by omega)]
theorem proof_lo {l : List Dg} {m : Nat} (h1 : 1 ≤ m) (h : m < l.length) (hm : m ≤ splitN l.length) (known : Bool) : proofD l m known = proofD (l.take (splitN l.length)) m known ++ [rootD (l.drop (splitN l.length))] := by
  rw [proofD, dif_neg (by omega), if_pos hm]
theorem proof_hi {l : List Dg} {m : Nat} (h1 : 1 ≤ m) (h : m < l.length) (hm : ¬ m ≤ splitN l.length) (known : Bool) : proofD l m known = proofD (l.drop (splitN l.length)) (m - splitN l.length) false ++ [rootD (l.take (splitN l.length))] := by
  rw [proofD, dif_neg (by omega), if_neg hm]
/-! ### Ways -/
def sidesN (n i : Nat) : List Bool :=
  if h : n < 2 then [] else
    have h1 := split_lt (n := n) (by omega)
    have h2 := split_pos n
    if splitN n ≤ i then true :: sidesN (n - splitN n) (i - splitN n) else false :: sidesN (splitN n) i
termination_by n
theorem sides_one {n : Nat} (h : n < 2) (i : Nat) : sidesN n i = [] := by rw [sidesN, dif_pos h]
theorem sides_hi {n i : Nat} (h : 2 ≤ n) (hi : splitN n ≤ i) : sidesN n i = true :: sidesN (n - splitN n) (i - splitN n) := by rw [sidesN, dif_neg (by omega), if_pos hi]
theorem sides_lo {n i : Nat} (h : 2 ≤ n) (hi : ¬ splitN n ≤ i) : sidesN n i = false :: sidesN (splitN n) i := by rw [sidesN, dif_neg (by omega), if_neg hi]
def stepsN (m n : Nat) : List Bool :=
  if h : n ≤ m ∨ n < 2 then [] else
    have h1 := split_lt (n := n) (by omega)
    have h2 := split_pos n
    if splitN n < m then true :: stepsN (m - splitN n) (n - splitN n) else false :: stepsN m (splitN n)
termination_by n
theorem steps_all {m n : Nat} (h : n ≤ m) : stepsN m n = [] := by rw [stepsN, dif_pos (Or.inl h)]
theorem steps_hi {m n : Nat} (h1 : 1 ≤ m) (h : m < n) (hm : splitN n < m) : stepsN m n = true :: stepsN (m - splitN n) (n - splitN n) := by rw [stepsN, dif_neg (by omega), if_pos hm]
theorem steps_lo {m n : Nat} (h1 : 1 ≤ m) (h : m < n) (hm : ¬ splitN n < m) : stepsN m n = false :: stepsN m (splitN n) := by rw [stepsN, dif_neg (by omega), if_neg hm]
def overD (ahead : Bool) (x other : Dg) : Dg := if ahead then nodeD other x else nodeD x other
def foldO : Dg → List Bool → List Dg → Dg
  | x, b :: bs, p :: ps => foldO (overD b x p) bs ps
  | x, _, _ => x
theorem foldO_snoc : ∀ (bs : List Bool) (ps : List Dg) (x : Dg) (b : Bool) (p : Dg), bs.length = ps.length → foldO x (bs ++ [b]) (ps ++ [p]) = overD b (foldO x bs ps) p
  | [], [], x, b, p, _ => rfl
  | [], _ :: _, _, _, _, h => by simp at h
  | _ :: _, [], _, _, _, h => by simp at h
  | c :: bs, q :: ps, x, b, p, h => by
    simp only [List.cons_append, foldO]
    exact foldO_snoc bs ps _ b p (by simpa using h)
def climbD (n i : Nat) (leaf : Dg) (path : List Dg) : Option Dg :=
  if (sidesN n i).length = path.length then some (foldO leaf (sidesN n i).reverse path) else none
theorem climb_nil {n i : Nat} (h : 2 ≤ n) (leaf : Dg) : climbD n i leaf [] = none := by
  unfold climbD
  by_cases hi : splitN n ≤ i
  · rw [sides_hi h hi, if_neg (by simp)]
  · rw [sides_lo h hi, if_neg (by simp)]
theorem climb_one (i : Nat) (leaf : Dg) (path : List Dg) : climbD 1 i leaf path = if path.length = 0 then some leaf else none := by
  unfold climbD
  rw [sides_one (by omega)]
  cases path <;> simp [foldO]
theorem climb_lo {n i : Nat} (h : 2 ≤ n) (hi : ¬ splitN n ≤ i) (leaf last : Dg) (rest : List Dg) : climbD n i leaf (rest ++ [last]) = (climbD (splitN n) i leaf rest).map fun x => nodeD x last := by
  unfold climbD
  rw [sides_lo h hi]
  simp only [List.length_cons, List.length_append, List.length_nil, Nat.zero_add, Nat.add_right_cancel_iff]
  split
  · rename_i he
    rw [List.reverse_cons, foldO_snoc _ _ _ _ _ (by simpa using he)]; rfl
  · rfl
theorem climb_hi {n i : Nat} (h : 2 ≤ n) (hi : splitN n ≤ i) (leaf last : Dg) (rest : List Dg) : climbD n i leaf (rest ++ [last]) = (climbD (n - splitN n) (i - splitN n) leaf rest).map fun x => nodeD last x := by
  unfold climbD
  rw [sides_hi h hi]
  simp only [List.length_cons, List.length_append, List.length_nil, Nat.zero_add, Nat.add_right_cancel_iff]
  split
  · rename_i he
    rw [List.reverse_cons, foldO_snoc _ _ _ _ _ (by simpa using he)]; rfl
  · rfl
/-- **The path proves the leaf.** -/
theorem climb_path (N : Nat) : ∀ (l : List Dg) (i : Nat) (leaf : Dg) (hN : l.length = N) (hi : l[i]? = some leaf), climbD l.length i leaf (pathD l i) = some (rootD l) := by
  induction N using Nat.strongRecOn with
  | ind N ih =>
    intro l i leaf hN hi
    have hil : i < l.length := (List.getElem?_eq_some_iff.1 hi).1
    by_cases h2 : 2 ≤ l.length
    · have hlt := split_lt h2
      have hpos := split_pos l.length
      rw [root_two h2]
      by_cases hk : i < splitN l.length
      · rw [path_lo h2 hk, climb_lo h2 (by omega)]
        have hl : (l.take (splitN l.length)).length = splitN l.length := by rw [List.length_take]; omega
        have := ih _ (by omega) (l.take (splitN l.length)) i leaf rfl (by rw [List.getElem?_take, if_pos hk, hi])
        rw [hl] at this
        rw [this]; rfl
      · rw [path_hi h2 hk, climb_hi h2 (by omega)]
        have hl : (l.drop (splitN l.length)).length = l.length - splitN l.length := by rw [List.length_drop]
        have := ih _ (by omega) (l.drop (splitN l.length)) (i - splitN l.length) leaf rfl (by rw [List.getElem?_drop, show splitN l.length + (i - splitN l.length) = i by omega, hi])
        rw [hl] at this
        rw [this]; rfl
    · match l, hil, hi, h2 with
      | [x], hil, hi, _ =>
        have : i = 0 := by simpa using hil
        subst this
        obtain rfl : x = leaf := by simpa using hi
        rw [path_one (by simp), root_one]
        exact climb_one _ _ _
      | [], hil, _, _ => simp at hil
      | x :: y :: r, _, _, h2 => exact absurd (by simp) h2
theorem climb_len {n i : Nat} {leaf x : Dg} {p : List Dg} (h : climbD n i leaf p = some x) : (sidesN n i).length = p.length := by
  unfold climbD at h
  split at h
  · assumption
  · cases h
theorem climb_off {n i : Nat} {leaf leaf' x : Dg} {p q : List Dg} (h : climbD n i leaf p = some x) (hq : q.length ≠ p.length) : climbD n i leaf' q = none := by
  have := climb_len h
  unfold climbD
  rw [if_neg (by omega)]
/-! ### Both roots -/
def fold2 : Dg × Dg → List Bool → List Dg → Dg × Dg
  | (a, b), s :: bs, p :: ps => fold2 (if s then nodeD p a else a, overD s b p) bs ps
  | x, _, _ => x
theorem fold2_snoc : ∀ (bs : List Bool) (ps : List Dg) (x : Dg × Dg) (s : Bool) (p : Dg), bs.length = ps.length → fold2 x (bs ++ [s]) (ps ++ [p]) = (if s then nodeD p (fold2 x bs ps).1 else (fold2 x bs ps).1, overD s (fold2 x bs ps).2 p)
  | [], [], x, b, p, _ => rfl
  | [], _ :: _, _, _, _, h => by simp at h
  | _ :: _, [], _, _, _, h => by simp at h
  | c :: bs, q :: ps, (a, b), s, p, h => by
    simp only [List.cons_append, fold2]
    exact fold2_snoc bs ps _ s p (by simpa using h)
def rootsOf (way : List Bool) (old : Dg) (known : Bool) (proof : List Dg) : Option (Dg × Dg) :=
  if (known && !way.contains true) = true then (if way.length = proof.length then some (fold2 (old, old) way.reverse proof) else none)
  else match proof with
    | [] => none
    | x :: ps => if way.length = ps.length then some (fold2 (x, x) way.reverse ps) else none
def rootsD (m n : Nat) (old : Dg) (known : Bool) (proof : List Dg) : Option (Dg × Dg) := rootsOf (stepsN m n) old known proof
theorem rootsOf_snoc (s : Bool) (way : List Bool) (old last : Dg) (known : Bool) (rest : List Dg) :
    rootsOf (s :: way) old known (rest ++ [last]) = (rootsOf way old (known && !s) rest).map fun x => (if s then nodeD last x.1 else x.1, overD s x.2 last) := by
  unfold rootsOf
  have hc : (known && !(s :: way).contains true) = (known && !s && !way.contains true) := by
    cases s <;> cases known <;> simp
  rw [hc]
  split
  · simp only [List.length_cons, List.length_append, List.length_nil, Nat.zero_add, Nat.add_right_cancel_iff]
    split
    · rename_i he
      rw [List.reverse_cons, fold2_snoc _ _ _ _ _ (by simpa using he)]; rfl
    · rfl
  · cases rest with
    | nil => simp
    | cons x ps =>
      simp only [List.cons_append, List.length_cons, List.length_append, List.length_nil, Nat.zero_add, Nat.add_right_cancel_iff]
      split
      · rename_i he
        rw [List.reverse_cons, fold2_snoc _ _ _ _ _ (by simpa using he)]; rfl
      · rfl
theorem rootsOf_nil (s : Bool) (way : List Bool) (old : Dg) (known : Bool) : rootsOf (s :: way) old known [] = none := by
  unfold rootsOf; split <;> simp
theorem roots_all (m : Nat) (old : Dg) (known : Bool) (proof : List Dg) : rootsD m m old known proof = if known then (if proof.length = 0 then some (old, old) else none) else (match proof with | [x] => some (x, x) | _ => none) := by
  unfold rootsD rootsOf
  rw [steps_all (Nat.le_refl _)]
  cases known
  · match proof with
    | [] => rfl
    | [x] => rfl
    | x :: y :: r => simp
  · cases proof <;> simp [fold2]
theorem roots_nil {m n : Nat} (h1 : 1 ≤ m) (h : m < n) (old : Dg) (known : Bool) : rootsD m n old known [] = none := by
  unfold rootsD
  by_cases hm : splitN n < m
  · rw [steps_hi h1 h hm]; exact rootsOf_nil _ _ _ _
  · rw [steps_lo h1 h hm]; exact rootsOf_nil _ _ _ _
theorem roots_hi {m n : Nat} (h1 : 1 ≤ m) (h : m < n) (hm : splitN n < m) (old last : Dg) (known : Bool) (rest : List Dg) :
    rootsD m n old known (rest ++ [last]) = (rootsD (m - splitN n) (n - splitN n) old false rest).map fun x => (nodeD last x.1, nodeD last x.2) := by
  unfold rootsD
  rw [steps_hi h1 h hm, rootsOf_snoc]
  simp [overD]
theorem roots_lo {m n : Nat} (h1 : 1 ≤ m) (h : m < n) (hm : ¬ splitN n < m) (old last : Dg) (known : Bool) (rest : List Dg) :
    rootsD m n old known (rest ++ [last]) = (rootsD m (splitN n) old known rest).map fun x => (x.1, nodeD x.2 last) := by
  unfold rootsD
  rw [steps_lo h1 h hm, rootsOf_snoc]
  simp [overD]
theorem take_take_le {l : List Dg} {k m : Nat} (h : k ≤ m) : (l.take m).take k = l.take k := by rw [List.take_take, Nat.min_eq_left h]
/-- **The proof leads from the old root to the new one.** -/
theorem roots_proof (N : Nat) : ∀ (l : List Dg) (m : Nat) (old : Dg) (known : Bool) (hN : l.length = N) (h1 : 1 ≤ m) (hm : m ≤ l.length) (hk : known = true → old = rootD (l.take m)),
    rootsD m l.length old known (proofD l m known) = some (rootD (l.take m), rootD l) := by
  induction N using Nat.strongRecOn with
  | ind N ih =>
    intro l m old known hN h1 hm hk
    by_cases hml : m = l.length
    · subst hml
      rw [proof_all, roots_all]
      rw [List.take_length] at hk ⊢
      cases known
      · rfl
      · rw [hk rfl]; rfl
    · have hlt : m < l.length := by omega
      have hs := split_lt (n := l.length) (by omega)
      have hp := split_pos l.length
      rw [root_two (l := l) (by omega)]
      by_cases hk2 : m ≤ splitN l.length
      · rw [proof_lo h1 hlt hk2, roots_lo h1 hlt (by omega)]
        have hl : (l.take (splitN l.length)).length = splitN l.length := by rw [List.length_take]; omega
        have := ih _ (by omega) (l.take (splitN l.length)) m old known rfl h1 (by omega) (by rw [take_take_le hk2]; exact hk)
        rw [hl, take_take_le hk2] at this
        rw [this]; rfl
      · rw [proof_hi h1 hlt hk2, roots_hi h1 hlt (by omega)]
        have hl : (l.drop (splitN l.length)).length = l.length - splitN l.length := by rw [List.length_drop]
        have := ih _ (by omega) (l.drop (splitN l.length)) (m - splitN l.length) old false rfl (by omega) (by omega) (by intro h; cases h)
        rw [hl] at this
        rw [this]
        have hl2 : (l.take m).length = m := by rw [List.length_take]; omega
        have hsm := split_same (n := l.length) (by omega) (by omega) hm
        rw [root_two (l := l.take m) (by omega), hl2, hsm, take_take_le (by omega), List.drop_take]
        rfl
theorem rootsOf_off {way : List Bool} {old old' : Dg} {known : Bool} {p : List Dg} {x : Dg × Dg} {z : Dg} (h : rootsOf way old known p = some x) : rootsOf way old' known (p ++ [z]) = none := by
  unfold rootsOf at h ⊢
  split at h
  · rename_i hc
    rw [if_pos hc]
    split at h
    · rw [if_neg (by simp; omega)]
    · cases h
  · rename_i hc
    rw [if_neg hc]
    cases p with
    | nil => cases h
    | cons y ps =>
      simp only at h
      split at h
      · simp only [List.cons_append]
        rw [if_neg (by simp; omega)]
      · cases h
theorem split_bits {n : Nat} (h : n ≤ 40) (h2 : 2 ≤ n) : splitN n &&& (splitN n - 1) = 0 := by
  have : ∀ k : Fin 41, 2 ≤ k.val → splitN k.val &&& (splitN k.val - 1) = 0 := by decide +kernel
  exact this ⟨n, by omega⟩ h2
end Go.Proofs.YtpcfkjeikhehaaaDoor
