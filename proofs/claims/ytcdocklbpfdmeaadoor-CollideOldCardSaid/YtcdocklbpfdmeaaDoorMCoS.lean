import Derived.Test.YtcdocklbpfdmeaaDoorMMix

/- The plain law of claims, growths and spans by any hash (checked stand-alone; not built in its seat yet). -/
set_option linter.unusedSimpArgs false
set_option linter.unusedVariables false
set_option linter.unnecessarySimpa false
namespace Go.Proofs.YtcdocklbpfdmeaaDoor
/-! ### Roots, claims and growths by any hash -/
theorem bytesD_inj {a b : Dg} (h : bytesD a = bytesD b) : a = b := by
  apply dF_inj
  intro i hi
  have : (bytesD a)[i]? = (bytesD b)[i]? := by rw [h]
  unfold bytesD at this
  rw [List.getElem?_map, List.getElem?_map, List.getElem?_range hi] at this
  simpa using this
def twoL (a b : Dg) : List UInt8 := 1 :: (bytesD a ++ bytesD b)
theorem twoL_inj {a b c d : Dg} (h : twoL a b = twoL c d) : a = c ∧ b = d := by
  unfold twoL at h
  have h := List.append_inj (List.cons.inj h).2 (by rw [bytesD_len, bytesD_len])
  exact ⟨bytesD_inj h.1, bytesD_inj h.2⟩
abbrev Cl := Option (List UInt8 × List UInt8)
section
variable (S : List UInt8 → Dg)
def overC (z : Dg) (l : List Dg) : Dg :=
  if h : l.length < 2 then l.headD z else
    have h1 := split_lt (n := l.length) (by omega)
    have h2 := split_pos l.length
    S (twoL (overC z (l.take (splitN l.length))) (overC z (l.drop (splitN l.length))))
termination_by l.length
decreasing_by
  · rw [List.length_take]; omega
  · rw [List.length_drop]; omega
variable {S}
theorem overC_nil (z : Dg) : overC S z [] = z := by rw [overC]; simp
theorem overC_one (z x : Dg) : overC S z [x] = x := by rw [overC]; simp
theorem overC_two {z : Dg} {l : List Dg} (h : 2 ≤ l.length) : overC S z l = S (twoL (overC S z (l.take (splitN l.length))) (overC S z (l.drop (splitN l.length)))) := by
  rw [overC, dif_neg (by omega)]
variable (S)
/-- The root of leaves. -/
def rootC (l : List (List UInt8)) : Dg := overC S (S []) (l.map fun b => S (0 :: b))
variable {S}
theorem rootC_nil : rootC S [] = S [] := overC_nil _
theorem rootC_one (b : List UInt8) : rootC S [b] = S (0 :: b) := overC_one _ _
theorem rootC_two {l : List (List UInt8)} (h : 2 ≤ l.length) : rootC S l = S (twoL (rootC S (l.take (splitN l.length))) (rootC S (l.drop (splitN l.length)))) := by
  unfold rootC
  rw [overC_two (by rw [List.length_map]; exact h), List.length_map, List.map_take, List.map_drop]
variable (S)
def putC (claimed is : List UInt8) (c : Cl) : Dg × Cl := (S claimed, if c = none ∧ claimed ≠ is ∧ S claimed = S is then some (claimed, is) else c)
/-- What is noted is a clash. -/
def GoodC (c : Cl) : Prop := ∀ x, c = some x → x.1 ≠ x.2 ∧ S x.1 = S x.2
variable {S}
theorem goodC_none : GoodC S none := fun x h => by cases h
theorem putC_good {a b : List UInt8} {c : Cl} (h : GoodC S c) : GoodC S (putC S a b c).2 := by
  unfold putC
  by_cases hc : c = none ∧ a ≠ b ∧ S a = S b
  · simp only [if_pos hc]
    intro x hx
    obtain rfl := Option.some.inj hx
    exact hc.2
  · simp only [if_neg hc]; exact h
theorem putC_none {a b : List UInt8} {c : Cl} (h : (putC S a b c).2 = none) : c = none ∧ (S a = S b → a = b) := by
  unfold putC at h
  by_cases hc : c = none ∧ a ≠ b ∧ S a = S b
  · simp only [if_pos hc] at h; cases h
  · simp only [if_neg hc] at h
    exact ⟨h, fun he => Classical.byContradiction fun hn => hc ⟨h, hn, he⟩⟩
variable (S)
/-- What is climbed to by a claim; none: it is no proof. -/
def climbC (l : List (List UInt8)) (i : Nat) (b : List UInt8) (path : List Dg) (c : Cl) : Option (Dg × Cl) :=
  if h : l.length < 2 then (if path = [] then some (putC S (0 :: b) (0 :: l.headD []) c) else none) else
    have h1 := split_lt (n := l.length) (by omega)
    have h2 := split_pos l.length
    match path.getLast? with
    | none => none
    | some last =>
      let is := twoL (rootC S (l.take (splitN l.length))) (rootC S (l.drop (splitN l.length)))
      if i < splitN l.length then (climbC (l.take (splitN l.length)) i b path.dropLast c).map fun x => putC S (twoL x.1 last) is x.2
      else (climbC (l.drop (splitN l.length)) (i - splitN l.length) b path.dropLast c).map fun x => putC S (twoL last x.1) is x.2
termination_by l.length
decreasing_by
  · rw [List.length_take]; omega
  · rw [List.length_drop]; omega
variable {S}
theorem climbC_one {l : List (List UInt8)} (h : l.length < 2) (i : Nat) (b : List UInt8) (path : List Dg) (c : Cl) : climbC S l i b path c = if path = [] then some (putC S (0 :: b) (0 :: l.headD []) c) else none := by
  rw [climbC, dif_pos h]
theorem climbC_nil {l : List (List UInt8)} (h : 2 ≤ l.length) (i : Nat) (b : List UInt8) (c : Cl) : climbC S l i b [] c = none := by
  rw [climbC, dif_neg (by omega)]; rfl
theorem climbC_lo {l : List (List UInt8)} (h : 2 ≤ l.length) {i : Nat} (hi : i < splitN l.length) (b : List UInt8) (rest : List Dg) (last : Dg) (c : Cl) :
    climbC S l i b (rest ++ [last]) c = (climbC S (l.take (splitN l.length)) i b rest c).map fun x => putC S (twoL x.1 last) (twoL (rootC S (l.take (splitN l.length))) (rootC S (l.drop (splitN l.length)))) x.2 := by
  rw [climbC, dif_neg (by omega)]
  simp [hi]
theorem climbC_hi {l : List (List UInt8)} (h : 2 ≤ l.length) {i : Nat} (hi : ¬ i < splitN l.length) (b : List UInt8) (rest : List Dg) (last : Dg) (c : Cl) :
    climbC S l i b (rest ++ [last]) c = (climbC S (l.drop (splitN l.length)) (i - splitN l.length) b rest c).map fun x => putC S (twoL last x.1) (twoL (rootC S (l.take (splitN l.length))) (rootC S (l.drop (splitN l.length)))) x.2 := by
  rw [climbC, dif_neg (by omega)]
  simp [hi]
theorem snoc_cases (p : List Dg) : p = [] ∨ ∃ r x, p = r ++ [x] := by
  rcases List.eq_nil_or_concat p with h | ⟨r, x, h⟩
  · exact Or.inl h
  · exact Or.inr ⟨r, x, by rw [h]; simp⟩
theorem climbC_good (N : Nat) : ∀ (l : List (List UInt8)) (i : Nat) (b : List UInt8) (path : List Dg) (c : Cl) (x : Dg × Cl), l.length = N → climbC S l i b path c = some x → GoodC S c → GoodC S x.2 := by
  induction N using Nat.strongRecOn with
  | _ N ih =>
    intro l i b path c x hN h hc
    by_cases h2 : l.length < 2
    · rw [climbC_one h2] at h
      split at h
      · obtain rfl := Option.some.inj h; exact putC_good hc
      · cases h
    · have h1 := split_lt (n := l.length) (by omega)
      have h3 := split_pos l.length
      rcases snoc_cases path with rfl | ⟨r, p, rfl⟩
      · rw [climbC_nil (by omega)] at h; cases h
      · by_cases hi : i < splitN l.length
        · rw [climbC_lo (by omega) hi] at h
          obtain ⟨y, hy, rfl⟩ := Option.map_eq_some_iff.1 h
          exact putC_good (ih _ (by rw [← hN, List.length_take]; omega) _ _ _ _ _ _ rfl hy hc)
        · rw [climbC_hi (by omega) hi] at h
          obtain ⟨y, hy, rfl⟩ := Option.map_eq_some_iff.1 h
          exact putC_good (ih _ (by rw [← hN, List.length_drop]; omega) _ _ _ _ _ _ rfl hy hc)
/-- What is accepted without a clash is so. -/
theorem climbC_so (N : Nat) : ∀ (l : List (List UInt8)) (i : Nat) (b : List UInt8) (path : List Dg) (c : Cl) (x : Dg), l.length = N → i < l.length → climbC S l i b path c = some (x, none) → x = rootC S l → l[i]? = some b := by
  induction N using Nat.strongRecOn with
  | _ N ih =>
    intro l i b path c x hN hi h hx
    by_cases h2 : l.length < 2
    · rw [climbC_one h2] at h
      obtain ⟨a, rfl⟩ : ∃ a, l = [a] := List.length_eq_one_iff.1 (by omega)
      obtain rfl : i = 0 := by simp at hi; exact hi
      split at h
      · have h := Option.some.inj h
        have hn := putC_none (congrArg Prod.snd h)
        have he : S (0 :: b) = x := congrArg Prod.fst h
        rw [rootC_one] at hx
        have := hn.2 (by rw [he, hx]; rfl)
        simp at this
        simp [this]
      · cases h
    · have h1 := split_lt (n := l.length) (by omega)
      have h3 := split_pos l.length
      rw [rootC_two (by omega)] at hx
      rcases snoc_cases path with rfl | ⟨r, p, rfl⟩
      · rw [climbC_nil (by omega)] at h; cases h
      · by_cases hik : i < splitN l.length
        · rw [climbC_lo (by omega) hik] at h
          obtain ⟨⟨y, cy⟩, hy, hp⟩ := Option.map_eq_some_iff.1 h
          obtain ⟨rfl, hn⟩ := putC_none (congrArg Prod.snd hp)
          have he : S (twoL y p) = x := congrArg Prod.fst hp
          have := twoL_inj (hn (he.trans hx))
          have := ih _ (by rw [← hN, List.length_take]; omega) _ _ _ _ _ _ rfl (by rw [List.length_take]; omega) hy this.1
          rwa [List.getElem?_take_of_lt hik] at this
        · rw [climbC_hi (by omega) hik] at h
          obtain ⟨⟨y, cy⟩, hy, hp⟩ := Option.map_eq_some_iff.1 h
          obtain ⟨rfl, hn⟩ := putC_none (congrArg Prod.snd hp)
          have he : S (twoL p y) = x := congrArg Prod.fst hp
          have := twoL_inj (hn (he.trans hx))
          have := ih _ (by rw [← hN, List.length_drop]; omega) _ _ _ _ _ _ rfl (by rw [List.length_drop]; omega) hy this.2
          rwa [List.getElem?_drop, show splitN l.length + (i - splitN l.length) = i by omega] at this
def loneD : List Dg → Option Dg
  | [x] => some x
  | _ => none
variable (S)
/-- Both roots of a growth. -/
def growC (l : List (List UInt8)) (m : Nat) (old : Dg) (known : Bool) (proof : List Dg) (c : Cl) : Option (Dg × Dg × Cl) :=
  if h : l.length < 2 ∨ m = l.length then (if known then (if proof = [] then some (old, old, c) else none) else (loneD proof).map fun x => (x, x, c)) else
    have h1 := split_lt (n := l.length) (by omega)
    have h2 := split_pos l.length
    match proof.getLast? with
    | none => none
    | some last =>
      let is := twoL (rootC S (l.take (splitN l.length))) (rootC S (l.drop (splitN l.length)))
      if m ≤ splitN l.length then (growC (l.take (splitN l.length)) m old known proof.dropLast c).map fun x => (x.1, putC S (twoL x.2.1 last) is x.2.2)
      else (growC (l.drop (splitN l.length)) (m - splitN l.length) old false proof.dropLast c).map fun x => (S (twoL last x.1), putC S (twoL last x.2.1) is x.2.2)
termination_by l.length
decreasing_by
  · rw [List.length_take]; omega
  · rw [List.length_drop]; omega
variable {S}
theorem growC_all {l : List (List UInt8)} {m : Nat} (h : m = l.length) (old : Dg) (known : Bool) (proof : List Dg) (c : Cl) : growC S l m old known proof c = if known then (if proof = [] then some (old, old, c) else none) else (loneD proof).map fun x => (x, x, c) := by
  rw [growC, dif_pos (Or.inr h)]
theorem growC_nil {l : List (List UInt8)} {m : Nat} (h1 : 1 ≤ m) (h : m < l.length) (old : Dg) (known : Bool) (c : Cl) : growC S l m old known [] c = none := by
  rw [growC, dif_neg (by omega)]; rfl
theorem growC_lo {l : List (List UInt8)} {m : Nat} (h1 : 1 ≤ m) (h : m < l.length) (hm : m ≤ splitN l.length) (old : Dg) (known : Bool) (rest : List Dg) (last : Dg) (c : Cl) :
    growC S l m old known (rest ++ [last]) c = (growC S (l.take (splitN l.length)) m old known rest c).map fun x => (x.1, putC S (twoL x.2.1 last) (twoL (rootC S (l.take (splitN l.length))) (rootC S (l.drop (splitN l.length)))) x.2.2) := by
  rw [growC, dif_neg (by omega)]
  simp [hm]
theorem growC_hi {l : List (List UInt8)} {m : Nat} (h1 : 1 ≤ m) (h : m < l.length) (hm : ¬ m ≤ splitN l.length) (old : Dg) (known : Bool) (rest : List Dg) (last : Dg) (c : Cl) :
    growC S l m old known (rest ++ [last]) c = (growC S (l.drop (splitN l.length)) (m - splitN l.length) old false rest c).map fun x => (S (twoL last x.1), putC S (twoL last x.2.1) (twoL (rootC S (l.take (splitN l.length))) (rootC S (l.drop (splitN l.length)))) x.2.2) := by
  rw [growC, dif_neg (by omega)]
  simp [hm]
theorem growC_good (N : Nat) : ∀ (l : List (List UInt8)) (m : Nat) (old : Dg) (known : Bool) (proof : List Dg) (c : Cl) (x : Dg × Dg × Cl), l.length = N → 1 ≤ m → m ≤ l.length → growC S l m old known proof c = some x → GoodC S c → GoodC S x.2.2 := by
  induction N using Nat.strongRecOn with
  | _ N ih =>
    intro l m old known proof c x hN hm1 hm h hc
    by_cases ha : m = l.length
    · rw [growC_all ha] at h
      split at h
      · split at h
        · obtain rfl := Option.some.inj h; exact hc
        · cases h
      · obtain ⟨y, _, rfl⟩ := Option.map_eq_some_iff.1 h; exact hc
    · have h1 := split_lt (n := l.length) (by omega)
      have h3 := split_pos l.length
      rcases snoc_cases proof with rfl | ⟨r, p, rfl⟩
      · rw [growC_nil hm1 (by omega)] at h; cases h
      · by_cases hk : m ≤ splitN l.length
        · rw [growC_lo hm1 (by omega) hk] at h
          obtain ⟨y, hy, rfl⟩ := Option.map_eq_some_iff.1 h
          exact putC_good (ih _ (by rw [← hN, List.length_take]; omega) _ _ _ _ _ _ _ rfl hm1 (by rw [List.length_take]; omega) hy hc)
        · rw [growC_hi hm1 (by omega) hk] at h
          obtain ⟨y, hy, rfl⟩ := Option.map_eq_some_iff.1 h
          exact putC_good (ih _ (by rw [← hN, List.length_drop]; omega) _ _ _ _ _ _ _ rfl (by omega) (by rw [List.length_drop]; omega) hy hc)
/-- A growth that is accepted without a clash is so. -/
theorem growC_so (N : Nat) : ∀ (l : List (List UInt8)) (m : Nat) (old : Dg) (known : Bool) (proof : List Dg) (c : Cl) (a b : Dg), l.length = N → 1 ≤ m → m ≤ l.length → growC S l m old known proof c = some (a, b, none) → b = rootC S l → a = rootC S (l.take m) := by
  induction N using Nat.strongRecOn with
  | _ N ih =>
    intro l m old known proof c a b hN hm1 hm h hb
    by_cases ha : m = l.length
    · rw [growC_all ha] at h
      rw [ha, List.take_length]
      split at h
      · split at h
        · simp at h; rw [← hb, ← h.1, ← h.2.1]
        · cases h
      · obtain ⟨y, _, e⟩ := Option.map_eq_some_iff.1 h
        simp at e; rw [← hb, ← e.1, ← e.2.1]
    · have h1 := split_lt (n := l.length) (by omega)
      have h3 := split_pos l.length
      rw [rootC_two (by omega)] at hb
      rcases snoc_cases proof with rfl | ⟨r, p, rfl⟩
      · rw [growC_nil hm1 (by omega)] at h; cases h
      · by_cases hk : m ≤ splitN l.length
        · rw [growC_lo hm1 (by omega) hk] at h
          obtain ⟨⟨y, z, cy⟩, hy, hp⟩ := Option.map_eq_some_iff.1 h
          have e1 : y = a := congrArg Prod.fst hp
          have e2 := congrArg Prod.snd hp
          obtain ⟨rfl, hn⟩ := putC_none (congrArg Prod.snd e2)
          have he : S (twoL z p) = b := congrArg Prod.fst e2
          have := twoL_inj (hn (he.trans hb))
          have := ih _ (by rw [← hN, List.length_take]; omega) _ _ _ _ _ _ _ _ rfl hm1 (by rw [List.length_take]; omega) hy this.1
          rw [← e1, this, List.take_take, Nat.min_eq_left hk]
        · rw [growC_hi hm1 (by omega) hk] at h
          obtain ⟨⟨y, z, cy⟩, hy, hp⟩ := Option.map_eq_some_iff.1 h
          have e1 : S (twoL p y) = a := congrArg Prod.fst hp
          have e2 := congrArg Prod.snd hp
          obtain ⟨rfl, hn⟩ := putC_none (congrArg Prod.snd e2)
          have he : S (twoL p z) = b := congrArg Prod.fst e2
          have hpz := twoL_inj (hn (he.trans hb))
          have := ih _ (by rw [← hN, List.length_drop]; omega) _ _ _ _ _ _ _ _ rfl (by omega) (by rw [List.length_drop]; omega) hy hpz.2
          have hs : splitN (l.take m).length = splitN l.length := by rw [List.length_take, Nat.min_eq_left hm]; exact split_same (by omega) (by omega) hm
          rw [rootC_two (l := l.take m) (by rw [List.length_take]; omega), hs, ← e1, this, hpz.1, List.take_take, Nat.min_eq_left (by omega), List.drop_take]
end
/-! ### Spans by any hash -/
section
variable {α : Type} (S : List UInt8 → Dg) (z : Dg) (cell : α → List UInt8)
/-- The top of pairs. -/
def topC (l : List α) : Dg := overC S z (l.map fun p => S (cell p))
variable {S z cell}
theorem topC_one (p : α) : topC S z cell [p] = S (cell p) := overC_one _ _
theorem topC_two {l : List α} (h : 2 ≤ l.length) : topC S z cell l = S (twoL (topC S z cell (l.take (splitN l.length))) (topC S z cell (l.drop (splitN l.length)))) := by
  unfold topC
  rw [overC_two (by rw [List.length_map]; exact h), List.length_map, List.map_take, List.map_drop]
variable (S z cell)
/-- What is put, where there is an honest one beside it. -/
def putH (claimed : List UInt8) (is : Option (List UInt8)) (c : Cl) : Dg × Cl := match is with
  | none => (S claimed, c)
  | some b => putC S claimed b c
def popD : List Dg → Option (Dg × List Dg)
  | [] => none
  | x :: r => some (x, r)
/-- The top that a span says of n pairs from a place on; the path and the clash behind it; none: it is no proof. -/
def spanC (first : Nat) (pairs : List α) (a n : Nat) (path : List Dg) (l : List α) (c : Cl) : Option (Dg × List Dg × Cl) :=
  if a + n ≤ first ∨ first + pairs.length ≤ a then (popD path).map fun q => (q.1, q.2, c)
  else if h : n < 2 then (pairs[a - first]?).map fun p => ((putH S (cell p) (l.head?.map cell) c).1, path, (putH S (cell p) (l.head?.map cell) c).2)
  else
    have h1 := split_lt (n := n) (by omega)
    have h2 := split_pos n
    (spanC first pairs a (splitN n) path (l.take (splitN n)) c).bind fun x =>
      (spanC first pairs (a + splitN n) (n - splitN n) x.2.1 (l.drop (splitN n)) x.2.2).map fun y =>
        let r := putH S (twoL x.1 y.1) (if l = [] then none else some (twoL (topC S z cell (l.take (splitN n))) (topC S z cell (l.drop (splitN n))))) y.2.2
        (r.1, y.2.1, r.2)
termination_by n
decreasing_by
  · omega
  · omega
variable {S z cell}
theorem spanC_out {first : Nat} {pairs : List α} {a n : Nat} (h : a + n ≤ first ∨ first + pairs.length ≤ a) (path : List Dg) (l : List α) (c : Cl) : spanC S z cell first pairs a n path l c = (popD path).map fun q => (q.1, q.2, c) := by
  rw [spanC, if_pos h]
theorem spanC_one {first : Nat} {pairs : List α} {a n : Nat} (h : ¬ (a + n ≤ first ∨ first + pairs.length ≤ a)) (hn : n < 2) (path : List Dg) (l : List α) (c : Cl) : spanC S z cell first pairs a n path l c = (pairs[a - first]?).map fun p => ((putH S (cell p) (l.head?.map cell) c).1, path, (putH S (cell p) (l.head?.map cell) c).2) := by
  rw [spanC, if_neg h, dif_pos hn]
theorem spanC_two {first : Nat} {pairs : List α} {a n : Nat} (h : ¬ (a + n ≤ first ∨ first + pairs.length ≤ a)) (hn : 2 ≤ n) (path : List Dg) (l : List α) (c : Cl) : spanC S z cell first pairs a n path l c =
    (spanC S z cell first pairs a (splitN n) path (l.take (splitN n)) c).bind fun x =>
      (spanC S z cell first pairs (a + splitN n) (n - splitN n) x.2.1 (l.drop (splitN n)) x.2.2).map fun y =>
        ((putH S (twoL x.1 y.1) (if l = [] then none else some (twoL (topC S z cell (l.take (splitN n))) (topC S z cell (l.drop (splitN n))))) y.2.2).1, y.2.1, (putH S (twoL x.1 y.1) (if l = [] then none else some (twoL (topC S z cell (l.take (splitN n))) (topC S z cell (l.drop (splitN n))))) y.2.2).2) := by
  rw [spanC, if_neg h, dif_neg (by omega)]
theorem putH_good {a : List UInt8} {b : Option (List UInt8)} {c : Cl} (h : GoodC S c) : GoodC S (putH S a b c).2 := by
  cases b with
  | none => exact h
  | some b => exact putC_good h
theorem spanC_good (n : Nat) : ∀ (first : Nat) (pairs : List α) (a : Nat) (path : List Dg) (l : List α) (c : Cl) (x : Dg × List Dg × Cl), spanC S z cell first pairs a n path l c = some x → GoodC S c → GoodC S x.2.2 := by
  induction n using Nat.strongRecOn with
  | _ n ih =>
    intro first pairs a path l c x h hc
    by_cases ho : a + n ≤ first ∨ first + pairs.length ≤ a
    · rw [spanC_out ho] at h
      obtain ⟨q, _, rfl⟩ := Option.map_eq_some_iff.1 h; exact hc
    · by_cases hn : n < 2
      · rw [spanC_one ho hn] at h
        obtain ⟨p, _, rfl⟩ := Option.map_eq_some_iff.1 h
        exact putH_good hc
      · have h1 := split_lt (n := n) (by omega)
        have h3 := split_pos n
        rw [spanC_two ho (by omega)] at h
        obtain ⟨y, hy, h⟩ := Option.bind_eq_some_iff.1 h
        obtain ⟨u, hu, rfl⟩ := Option.map_eq_some_iff.1 h
        exact putH_good (ih _ (by omega) _ _ _ _ _ _ _ hu (ih _ (by omega) _ _ _ _ _ _ _ hy hc))
/-- What a span says without a clash is there. -/
theorem spanC_so (n : Nat) : ∀ (first : Nat) (pairs : List α) (a : Nat) (path path' : List Dg) (l : List α) (c : Cl) (x : Dg), l.length = n → 1 ≤ n → spanC S z cell first pairs a n path l c = some (x, path', none) → x = topC S z cell l →
    c = none ∧ ∀ j p, j < n → first ≤ a + j → pairs[a + j - first]? = some p → (l[j]?).map cell = some (cell p) := by
  induction n using Nat.strongRecOn with
  | _ n ih =>
    intro first pairs a path path' l c x hl h1 h hx
    by_cases ho : a + n ≤ first ∨ first + pairs.length ≤ a
    · rw [spanC_out ho] at h
      obtain ⟨q, _, e⟩ := Option.map_eq_some_iff.1 h
      refine ⟨congrArg (fun q => q.2.2) e, fun j p hj h1 hp => ?_⟩
      have := (List.getElem?_eq_some_iff.1 hp).1
      omega
    · by_cases hn : n < 2
      · rw [spanC_one ho hn] at h
        obtain ⟨q, rfl⟩ : ∃ q, l = [q] := List.length_eq_one_iff.1 (by omega)
        obtain ⟨p, hp, e⟩ := Option.map_eq_some_iff.1 h
        have e1 : S (cell p) = x := congrArg (fun q => q.1) e
        obtain ⟨rfl, hc⟩ := putC_none (S := S) (a := cell p) (b := cell q) (c := c) (congrArg (fun q => q.2.2) e)
        rw [topC_one] at hx
        have hpq := hc (e1.trans hx)
        refine ⟨rfl, fun j p' hj h2 hp' => ?_⟩
        obtain rfl : j = 0 := by omega
        rw [Nat.add_zero, hp] at hp'
        obtain rfl := Option.some.inj hp'
        simp [hpq]
      · have hs := split_lt (n := n) (by omega)
        have h3 := split_pos n
        rw [spanC_two ho (by omega)] at h
        obtain ⟨⟨y, py, cy⟩, hy, h⟩ := Option.bind_eq_some_iff.1 h
        obtain ⟨⟨u, pu, cu⟩, hu, e⟩ := Option.map_eq_some_iff.1 h
        have hne : l ≠ [] := fun e => by rw [e] at hl; simp at hl; omega
        simp only [if_neg hne, putH] at e
        have e1 : S (twoL y u) = x := congrArg (fun q => q.1) e
        obtain ⟨rfl, hc⟩ := putC_none (congrArg (fun q => q.2.2) e)
        rw [topC_two (by omega), hl] at hx
        have he := twoL_inj (hc (e1.trans hx))
        obtain ⟨rfl, k2⟩ := ih _ (by omega) _ _ _ _ _ _ _ _ (by rw [List.length_drop]; omega) (by omega) hu he.2
        obtain ⟨rfl, k1⟩ := ih _ hs _ _ _ _ _ _ _ _ (by rw [List.length_take]; omega) h3 hy he.1
        refine ⟨rfl, fun j p hj h2 hp => ?_⟩
        by_cases hjk : j < splitN n
        · have := k1 j p hjk h2 hp
          rwa [List.getElem?_take_of_lt hjk] at this
        · have := k2 (j - splitN n) p (by omega) (by omega) (by rw [show a + splitN n + (j - splitN n) - first = a + j - first by omega]; exact hp)
          rwa [List.getElem?_drop, show splitN n + (j - splitN n) = j by omega] at this
end
end Go.Proofs.YtcdocklbpfdmeaaDoor

/- Digests of a width; by the whole width claims and growths are History's (checked stand-alone). -/
set_option linter.unusedSimpArgs false
set_option linter.unusedVariables false
set_option linter.unnecessarySimpa false
namespace Go.Proofs.YtcdocklbpfdmeaaDoor
/-- The first s bits of a byte. -/
def lowB (s : Nat) (b : UInt8) : UInt8 := if s = 0 then 0 else if s < 8 then b &&& (255 <<< UInt8.ofNat (8 - s)) else b
def widD (n : Nat) (d : Dg) : Dg := ofF fun i => lowB (n - 8 * i) (dF d i)
theorem widD_full (d : Dg) {n : Nat} (h : 256 ≤ n) : widD n d = d := dF_inj fun i hi => by
  unfold widD
  rw [dF_ofF _ _ hi]
  unfold lowB
  rw [if_neg (by omega), if_neg (by omega)]
def sumW (n : Nat) (b : List UInt8) : Dg := widD n (sumD b)
theorem sumW_full {n : Nat} (h : 256 ≤ n) : sumW n = sumD := funext fun b => widD_full _ h
/-- One bit made nought, as the document does it. -/
def clr1 (b : UInt8) (k : Nat) : UInt8 := if b &&& (128 >>> UInt8.ofNat k) ≠ 0 then b - (128 >>> UInt8.ofNat k) else b
/-- The bits from s to e made nought. -/
def clrR (s e : Nat) (b : UInt8) : UInt8 := (List.range (min e 8)).foldl (fun b k => if s ≤ k then clr1 b k else b) b
theorem clrR_none {s e : Nat} (b : UInt8) (h : min e 8 ≤ s) : clrR s e b = b := by
  unfold clrR
  have : ∀ (l : List Nat) (b : UInt8), (∀ k ∈ l, k < s) → l.foldl (fun b k => if s ≤ k then clr1 b k else b) b = b := by
    intro l
    induction l with
    | nil => intro b _; rfl
    | cons k l ih =>
      intro b hl
      rw [List.foldl_cons, if_neg (by have := hl k List.mem_cons_self; omega)]
      exact ih b fun k hk => hl k (List.mem_cons_of_mem _ hk)
  exact this _ b fun k hk => by have := List.mem_range.1 hk; omega
theorem clrR_succ {s k : Nat} (b : UInt8) (h : s ≤ k) (hk : k < 8) : clrR s (k + 1) b = clr1 (clrR s k b) k := by
  unfold clrR
  rw [Nat.min_eq_left (by omega), Nat.min_eq_left (by omega), List.range_succ, List.foldl_append]
  simp [h]
theorem clr_low : ∀ (s : Fin 8) (b : Fin 256), clrR s.val 8 (UInt8.ofNat b.val) = lowB s.val (UInt8.ofNat b.val) := by decide +kernel
theorem clrR_low (s : Nat) (b : UInt8) : clrR s 8 b = lowB s b := by
  by_cases h : s < 8
  · have := clr_low ⟨s, h⟩ ⟨b.toNat, b.toNat_lt⟩
    simpa using this
  · rw [clrR_none b (by omega)]
    unfold lowB
    rw [if_neg (by omega), if_neg h]
/-- A digest where the document has made nought the bits from w to i. -/
def midD (w i : Nat) (d : Dg) : Nat → UInt8 := fun j => clrR (w - 8 * j) (i - 8 * j) (dF d j)
theorem mid_start (w : Nat) (d : Dg) (j : Nat) : midD w w d j = dF d j := by
  unfold midD
  rw [clrR_none _ (by omega)]
theorem mid_end (w : Nat) (d : Dg) {j : Nat} (hj : j < 32) : midD w 256 d j = dF (widD w d) j := by
  unfold midD widD
  rw [dF_ofF _ _ hj, ← clrR_low]
  unfold clrR
  rw [show min (256 - 8 * j) 8 = min 8 8 by omega]
theorem mid_step {w i : Nat} (d : Dg) (h : w ≤ i) (j : Nat) : midD w (i + 1) d j = if j = i / 8 then clr1 (midD w i d j) (i % 8) else midD w i d j := by
  unfold midD
  by_cases hj : j = i / 8
  · rw [if_pos hj]
    have e1 : i + 1 - 8 * j = i % 8 + 1 := by omega
    have e2 : i - 8 * j = i % 8 := by omega
    rw [e1, e2]
    exact clrR_succ _ (by omega) (by omega)
  · rw [if_neg hj]
    unfold clrR
    rw [show min (i + 1 - 8 * j) 8 = min (i - 8 * j) 8 by omega]
/-! ### By the whole width -/
theorem overC_root (l : List Dg) : overC sumD (sumD []) l = rootD l := by
  have : ∀ N (l : List Dg), l.length = N → overC sumD (sumD []) l = rootD l := by
    intro N
    induction N using Nat.strongRecOn with
    | _ N ih =>
      intro l hN
      by_cases h : l.length < 2
      · rw [overC, dif_pos h, rootD, dif_pos h]
      · have h1 := split_lt (n := l.length) (by omega)
        have h2 := split_pos l.length
        rw [overC_two (by omega), root_two (by omega), ih _ (by rw [← hN, List.length_take]; omega) _ rfl, ih _ (by rw [← hN, List.length_drop]; omega) _ rfl]
        rfl
  exact this _ l rfl
theorem rootC_root (l : List (List UInt8)) : rootC sumD l = rootD (l.map leafD) := overC_root _
theorem climbC_climb (N : Nat) : ∀ (l : List (List UInt8)) (i : Nat) (b : List UInt8) (path : List Dg) (c : Cl), l.length = N → 1 ≤ N → (climbC sumD l i b path c).map (·.1) = climbD l.length i (leafD b) path := by
  induction N using Nat.strongRecOn with
  | _ N ih =>
    intro l i b path c hN hN1
    by_cases h2 : l.length < 2
    · rw [climbC_one h2, show l.length = 1 by omega, climb_one]
      cases path <;> simp [putC, leafD]
    · have h1 := split_lt (n := l.length) (by omega)
      have h3 := split_pos l.length
      rcases snoc_cases path with rfl | ⟨r, p, rfl⟩
      · rw [climbC_nil (by omega), climb_nil (by omega)]; rfl
      · by_cases hi : i < splitN l.length
        · have := ih _ (by omega) (l.take (splitN l.length)) i b r c (by rw [List.length_take]; omega) h3
          rw [show (l.take (splitN l.length)).length = splitN l.length by rw [List.length_take]; omega] at this
          rw [climbC_lo (by omega) hi, climb_lo (by omega) (by omega), ← this, Option.map_map, Option.map_map]
          rfl
        · have := ih (l.length - splitN l.length) (by omega) (l.drop (splitN l.length)) (i - splitN l.length) b r c (by rw [List.length_drop]) (by omega)
          rw [show (l.drop (splitN l.length)).length = l.length - splitN l.length by rw [List.length_drop]] at this
          rw [climbC_hi (by omega) hi, climb_hi (by omega) (by omega), ← this, Option.map_map, Option.map_map]
          rfl
theorem growC_roots (N : Nat) : ∀ (l : List (List UInt8)) (m : Nat) (old : Dg) (known : Bool) (proof : List Dg) (c : Cl), l.length = N → 1 ≤ m → m ≤ N → (growC sumD l m old known proof c).map (fun x => (x.1, x.2.1)) = rootsD m l.length old known proof := by
  induction N using Nat.strongRecOn with
  | _ N ih =>
    intro l m old known proof c hN hm1 hm
    by_cases ha : m = l.length
    · subst ha
      rw [growC_all rfl, roots_all]
      cases known
      · match proof with
        | [] => rfl
        | [x] => rfl
        | x :: y :: r => rfl
      · cases proof <;> simp
    · have h1 := split_lt (n := l.length) (by omega)
      have h3 := split_pos l.length
      rcases snoc_cases proof with rfl | ⟨r, p, rfl⟩
      · rw [growC_nil hm1 (by omega), roots_nil hm1 (by omega)]; rfl
      · by_cases hk : m ≤ splitN l.length
        · have := ih _ (by omega) (l.take (splitN l.length)) m old known r c (by rw [List.length_take]; omega) hm1 hk
          rw [show (l.take (splitN l.length)).length = splitN l.length by rw [List.length_take]; omega] at this
          rw [growC_lo hm1 (by omega) hk, roots_lo hm1 (by omega) (by omega), ← this, Option.map_map, Option.map_map]
          rfl
        · have := ih (l.length - splitN l.length) (by omega) (l.drop (splitN l.length)) (m - splitN l.length) old false r c (by rw [List.length_drop]) (by omega) (by omega)
          rw [show (l.drop (splitN l.length)).length = l.length - splitN l.length by rw [List.length_drop]] at this
          rw [growC_hi hm1 (by omega) hk, roots_hi hm1 (by omega) (by omega), ← this, Option.map_map, Option.map_map]
          rfl
end Go.Proofs.YtcdocklbpfdmeaaDoor
