import Derived.Test.YtbobamifpjlmiaaDoorMVer
import Derived.Test.YtbobamifpjlmiaaDoorMSameSp

/- Search: the document's top; what is proved is accepted. The plain law. -/
set_option linter.unusedSimpArgs false
set_option linter.unusedVariables false
set_option maxRecDepth 20000
namespace Go.Proofs.YtbobamifpjlmiaaDoor
open Go.RowKit
/-- The top that a span says of n pairs from a place on, by what is left of its path. -/
def topR (ps : List Pr) (first at_ n : Nat) (path : List Dg) : Option (Dg × List Dg) :=
  if at_ + n ≤ first ∨ first + ps.length ≤ at_ then (match path with | [] => none | d :: q => some (d, q))
  else if h : 2 ≤ n then
    have h1 := split_lt h
    have h2 := split_pos n
    match topR ps first at_ (splitN n) path with
    | none => none
    | some x => match topR ps first (at_ + splitN n) (n - splitN n) x.2 with
      | none => none
      | some y => some (nodeD x.1 y.1, y.2)
  else some (leafP (prAt ps (at_ - first)), path)
termination_by n
theorem topR_nil {ps : List Pr} {first at_ n : Nat} (h : at_ + n ≤ first ∨ first + ps.length ≤ at_) : topR ps first at_ n [] = none := by unfold topR; rw [if_pos h]
theorem topR_out {ps : List Pr} {first at_ n : Nat} {d : Dg} {q : List Dg} (h : at_ + n ≤ first ∨ first + ps.length ≤ at_) : topR ps first at_ n (d :: q) = some (d, q) := by unfold topR; rw [if_pos h]
theorem topR_one {ps : List Pr} {first at_ n : Nat} {q : List Dg} (h : ¬ (at_ + n ≤ first ∨ first + ps.length ≤ at_)) (h2 : ¬ 2 ≤ n) : topR ps first at_ n q = some (leafP (prAt ps (at_ - first)), q) := by unfold topR; rw [if_neg h, dif_neg h2]
theorem topR_none {ps : List Pr} {first at_ n : Nat} {q : List Dg} (h : ¬ (at_ + n ≤ first ∨ first + ps.length ≤ at_)) (h2 : 2 ≤ n) (h3 : topR ps first at_ (splitN n) q = none) : topR ps first at_ n q = none := by
  conv => lhs; unfold topR
  rw [if_neg h, dif_pos h2]; simp only [h3]
theorem topR_two {ps : List Pr} {first at_ n : Nat} {q q1 : List Dg} {a : Dg} (h : ¬ (at_ + n ≤ first ∨ first + ps.length ≤ at_)) (h2 : 2 ≤ n) (h3 : topR ps first at_ (splitN n) q = some (a, q1)) :
    topR ps first at_ n q = match topR ps first (at_ + splitN n) (n - splitN n) q1 with | none => none | some y => some (nodeD a y.1, y.2) := by
  conv => lhs; unfold topR
  rw [if_neg h, dif_pos h2]; simp only [h3]
theorem ft_one (ps : List Pr) (qs : List Dg) (first at_ s : Nat) : (FT ps qs first at_ 1 s).1.isSome = true := by
  unfold FT; split
  · rfl
  · rw [if_pos rfl]; rfl
theorem tree_mono (ps : List Pr) (qs : List Dg) (first n at_ k : Nat) (h : 0 < n) : k ≤ (treeD (FT ps qs first) at_ n k).2 :=
  tree_Q (FT ps qs first) (fun _ s => k ≤ s) (ft_one ps qs first) (fun at_ n s _ hq _ => by unfold FT; split; (simp only; omega); split <;> simp only <;> omega) (fun at_ n s hq _ => by unfold FT; split; (simp only; omega); split <;> simp only <;> omega) n at_ k h (Nat.le_refl _)
theorem topR_law (ps : List Pr) (qs : List Dg) (first : Nat) (n : Nat) : ∀ at_ k, 1 ≤ n → k ≤ qs.length →
    (topR ps first at_ n (qs.drop k) = none → qs.length < (treeD (FT ps qs first) at_ n k).2) ∧
    (∀ d q, topR ps first at_ n (qs.drop k) = some (d, q) → (treeD (FT ps qs first) at_ n k).1 = d ∧ q = qs.drop (treeD (FT ps qs first) at_ n k).2 ∧ (treeD (FT ps qs first) at_ n k).2 ≤ qs.length) := by
  induction n using Nat.strongRecOn with
  | ind n ih =>
    intro at_ k h1 hk
    by_cases ho : at_ + n ≤ first ∨ first + ps.length ≤ at_
    · rw [tree_done (d := qs.getD k zeroD) (s1 := k + 1) (by unfold FT; rw [if_pos ho])]
      rcases Nat.lt_or_ge k qs.length with h | h
      · rw [List.drop_eq_getElem_cons h, topR_out ho]
        refine ⟨fun h => (by cases h), fun d q hd => ?_⟩
        simp only [Option.some.injEq, Prod.mk.injEq] at hd
        obtain ⟨rfl, rfl⟩ := hd
        exact ⟨by simp [List.getD_eq_getElem?_getD, List.getElem?_eq_getElem h], rfl, h⟩
      · rw [List.drop_eq_nil_of_le h, topR_nil ho]
        exact ⟨fun _ => by simp only; omega, fun d q hd => by cases hd⟩
    · by_cases h2 : 2 ≤ n
      · have k1 := split_lt h2
        have k2 := split_pos n
        rw [tree_more (s1 := k) (by unfold FT; rw [if_neg ho, if_neg (by omega)]) h2]
        obtain ⟨i1, i2⟩ := ih _ k1 at_ k k2 hk
        cases hx : topR ps first at_ (splitN n) (qs.drop k) with
        | none =>
          rw [topR_none ho h2 hx]
          refine ⟨fun _ => ?_, fun d q hd => by cases hd⟩
          have := i1 hx
          have := tree_mono ps qs first (n - splitN n) (at_ + splitN n) (treeD (FT ps qs first) at_ (splitN n) k).2 (by omega)
          simp only
          omega
        | some x =>
          obtain ⟨a, q1⟩ := x
          rw [topR_two ho h2 hx]
          obtain ⟨j1, j2, j3⟩ := i2 a q1 hx
          obtain ⟨i3, i4⟩ := ih (n - splitN n) (by omega) (at_ + splitN n) _ (by omega) j3
          rw [← j2] at i3 i4
          cases hy : topR ps first (at_ + splitN n) (n - splitN n) q1 with
          | none => exact ⟨fun _ => i3 hy, fun d q hd => by cases hd⟩
          | some y =>
            obtain ⟨b, q2⟩ := y
            obtain ⟨m1, m2, m3⟩ := i4 b q2 hy
            refine ⟨fun h => (by cases h), fun d q hd => ?_⟩
            simp only [Option.some.injEq, Prod.mk.injEq] at hd
            obtain ⟨rfl, rfl⟩ := hd
            exact ⟨by simp only [j1, m1], m2, m3⟩
      · obtain rfl : n = 1 := by omega
        rw [tree_done (d := leafP (prAt ps (at_ - first))) (s1 := k) (by unfold FT; rw [if_neg ho, if_pos rfl]), topR_one ho h2]
        refine ⟨fun h => (by cases h), fun d q hd => ?_⟩
        simp only [Option.some.injEq, Prod.mk.injEq] at hd
        obtain ⟨rfl, rfl⟩ := hd
        exact ⟨rfl, rfl, hk⟩
/-- The document's Top by its walk. -/
theorem topS_doc {t f : Nat} {ps : List Pr} {qs : List Dg} (hok : okS t f ps) (ht : t ≠ 0) (hp : ps.length ≠ 0) : topS t f ps qs = match topR ps f 0 t qs with | some (d, []) => some (crownD t d) | _ => none := by
  unfold topS
  rw [if_pos hok, if_neg (by omega), if_neg hp]
  obtain ⟨h1, h2⟩ := topR_law ps qs f t 0 0 (by omega) (by omega)
  rw [List.drop_zero] at h1 h2
  simp only [Int.toNat_natCast]
  cases hx : topR ps f 0 t qs with
  | none =>
    have := h1 hx
    rw [if_neg (by omega)]
  | some x =>
    obtain ⟨d, q⟩ := x
    obtain ⟨j1, j2, j3⟩ := h2 d q hx
    have hql : q.length = qs.length - (treeD (FT ps qs f) 0 t 0).2 := by rw [j2, List.length_drop]
    cases q with
    | nil =>
      simp only [List.length_nil] at hql
      rw [if_pos (by omega), j1]
    | cons e q =>
      simp only [List.length_cons] at hql
      rw [if_neg (by omega)]
theorem prAt_sub {l : List Pr} {f m i : Nat} (hi : i < m) : prAt ((l.drop f).take m) i = prAt l (f + i) := by
  unfold prAt
  rw [List.getD_eq_getElem?_getD, List.getD_eq_getElem?_getD, List.getElem?_take, if_pos hi, List.getElem?_drop]
theorem back_tree (l0 : List Pr) (first end_ : Nat) (hfe : first ≤ end_) (he : end_ ≤ l0.length) (qs : List Dg) (n : Nat) : ∀ at_ k, 1 ≤ n → at_ + n ≤ l0.length →
    (∀ j d, (pathR ((l0.drop at_).take n) at_ first end_)[j]? = some d → qs[k + j]? = some d) →
    treeD (FT ((l0.drop first).take (end_ - first)) qs first) at_ n k = (topP ((l0.drop at_).take n), k + (pathR ((l0.drop at_).take n) at_ first end_).length) := by
  have hpl : ((l0.drop first).take (end_ - first)).length = end_ - first := by rw [List.length_take, List.length_drop]; omega
  induction n using Nat.strongRecOn with
  | ind n ih =>
    intro at_ k h1 h2 hq
    have hl : ((l0.drop at_).take n).length = n := by rw [List.length_take, List.length_drop]; omega
    by_cases ho : at_ + n ≤ first ∨ end_ ≤ at_
    · rw [pathR_out (by rw [hl]; exact ho)] at hq ⊢
      have := hq 0 _ rfl
      rw [tree_done (d := topP ((l0.drop at_).take n)) (s1 := k + 1) (by unfold FT; rw [if_pos (by rw [hpl]; omega), List.getD_eq_getElem?_getD, show k = k + 0 from rfl, this]; rfl)]
      rfl
    · by_cases hn : n = 1
      · subst hn
        rw [pathR_one (by rw [hl]; exact ho) (by omega)]
        have hx : (l0.drop at_).take 1 = [prAt l0 at_] := by
          have h3 : prAt l0 at_ = l0[at_] := by simp [prAt, List.getD_eq_getElem?_getD, List.getElem?_eq_getElem (show at_ < l0.length by omega)]
          rw [List.drop_eq_getElem_cons (show at_ < l0.length by omega), h3]; rfl
        rw [tree_done (d := leafP (prAt l0 at_)) (s1 := k) (by unfold FT; rw [if_neg (by rw [hpl]; omega), if_pos rfl, prAt_sub (by omega), show first + (at_ - first) = at_ by omega]), hx, topP_one]
        rfl
      · have k1 := split_lt (n := n) (by omega)
        have k2 := split_pos n
        have e1 : ((l0.drop at_).take n).take (splitN n) = (l0.drop at_).take (splitN n) := by rw [List.take_take, Nat.min_eq_left (by omega)]
        have e2 : ((l0.drop at_).take n).drop (splitN n) = (l0.drop (at_ + splitN n)).take (n - splitN n) := by rw [List.drop_take, List.drop_drop]
        have hp := pathR_two (l := (l0.drop at_).take n) (at_ := at_) (first := first) (end_ := end_) (by rw [hl]; exact ho) (by omega)
        have ht := topP_two (l := (l0.drop at_).take n) (by omega)
        rw [hl, e1, e2] at hp ht
        rw [hp] at hq ⊢
        rw [ht]
        rw [tree_more (s1 := k) (by unfold FT; rw [if_neg (by rw [hpl]; omega), if_neg hn]) (by omega)]
        rw [ih _ k1 at_ k k2 (by omega) (fun j d hd => hq j d (by rw [List.getElem?_append_left (List.getElem?_eq_some_iff.1 hd).1]; exact hd))]
        simp only
        rw [ih (n - splitN n) (by omega) (at_ + splitN n) _ (by omega) (by omega) (fun j d hd => by
          have := hq ((pathR ((l0.drop at_).take (splitN n)) at_ first end_).length + j) d (by rw [List.getElem?_append_right (by omega), Nat.add_sub_cancel_left]; exact hd)
          rwa [← Nat.add_assoc] at this)]
        simp only [List.length_append, Nat.add_assoc]
theorem right_sub {l : List Pr} (hr : rightP l = true) (f m : Nat) : rightP ((l.drop f).take m) = true := by
  have hL := right_len hr
  rw [right_iff] at hr ⊢
  intro i hi
  rw [List.length_take, List.length_drop] at hi
  have h := hr (f + i) (by omega)
  unfold badAt at h ⊢
  rw [prAt_sub (by omega)]
  simp only [Bool.or_eq_false_iff, decide_eq_false_iff_not, Bool.and_eq_false_iff] at h ⊢
  obtain ⟨⟨⟨⟨a1, a2⟩, a3⟩, a4⟩, a5⟩ := h
  refine ⟨⟨⟨⟨a1, a2⟩, a3⟩, ?_⟩, by omega⟩
  by_cases h0 : 0 < i
  · right
    rw [prAt_sub (by omega), show f + (i - 1) = f + i - 1 by omega]
    rcases a4 with a4 | a4
    · omega
    · exact a4
  · left; omega
theorem back_top {l : List Pr} (hr : rightP l = true) (r : Rg) : topS l.length (firstP l r) (pairsP l r) (pathS l r) = some (rootP l) := by
  have hL := right_len hr
  obtain ⟨h1, h2, h3⟩ := first_end l r
  have hpl := pairs_len l r
  have hok : okS l.length (firstP l r) (pairsP l r) := ⟨by omega, by omega, by omega, by omega, by omega, right_sub hr _ _⟩
  unfold topS
  rw [if_pos hok]
  by_cases h0 : l.length = 0
  · obtain rfl := List.eq_nil_of_length_eq_zero h0
    rw [if_pos (by simp), if_pos (by simp [pathS])]
    unfold rootP topP
    simp
  · have hend : firstP l r < endP l r := by
      have := h3 (by omega)
      unfold endP firstP at *
      split <;> omega
    have hb := back_tree l (firstP l r) (endP l r) h1 h2 (pathS l r) l.length 0 0 (by omega) (by omega) (fun j d hd => by
      rw [List.drop_zero, List.take_length] at hd
      rw [pathS_doc l r (by omega), Nat.zero_add]; exact hd)
    rw [List.drop_zero, List.take_length, ← pathS_doc l r (by omega), Nat.zero_add] at hb
    rw [if_neg (by omega), if_neg (by omega)]
    unfold pairsP
    simp only [Int.toNat_natCast]
    rw [hb, if_pos rfl]
    rfl
theorem back_ver {l : List Pr} (hr : rightP l = true) (r : Rg) : verS (rootP l) r l.length (firstP l r) (pairsP l r) (pathS l r) = some (l.filter fun p => inP r p.1) := by
  have hL := right_len hr
  obtain ⟨h1, h2, h3⟩ := first_end l r
  have hpl := pairs_len l r
  unfold verS
  rw [if_pos (back_top hr r)]
  by_cases h0 : l.length = 0
  · obtain rfl := List.eq_nil_of_length_eq_zero h0
    rw [if_pos (by simp)]; rfl
  · have h4 := h3 (by omega)
    have hblo := below_le l r.lo
    have hbhi := below_le l r.hi
    have hend : firstP l r < endP l r := by
      unfold endP firstP at *
      split <;> omega
    rw [if_neg (by omega)]
    have hlo : ∀ j, j < firstP l r → inP r (prAt l j).1 = false := fun j hj => by
      unfold inP
      rw [below_lt j (by unfold firstP at hj; omega)]; rfl
    have hhi : ∀ j, endP l r ≤ j → j < l.length → inP r (prAt l j).1 = false := fun j hj hj2 => by
      unfold endP at hj
      unfold inP
      cases hop : r.op with
      | true => rw [hop] at hj; simp only [if_true] at hj; omega
      | false =>
        rw [hop] at hj
        simp only [Bool.false_eq_true, if_false] at hj
        rw [below_ge (k := r.hi) hr (by omega) hj2]; simp
    have hbad : badV r l.length (firstP l r) (pairsP l r) = false := by
      unfold badV keyAt
      rw [hpl]
      unfold pairsP
      rw [prAt_sub (by omega), prAt_sub (by omega), Nat.add_zero, show firstP l r + (endP l r - firstP l r - 1) = endP l r - 1 by omega]
      simp only [Bool.or_eq_false_iff, Bool.and_eq_false_iff, decide_eq_false_iff_not, Bool.not_eq_false']
      refine ⟨?_, ?_⟩
      · by_cases hf : 0 < firstP l r
        · left; exact below_lt _ (by unfold firstP at *; omega)
        · right; omega
      · by_cases he : endP l r < l.length
        · left
          unfold endP at he ⊢
          cases hop : r.op with
          | true => rw [hop] at he; simp only [if_true] at he; omega
          | false =>
            rw [hop] at he
            simp only [Bool.false_eq_true, if_false] at he ⊢
            rw [show min (max (belowN l r.lo) (belowN l r.hi) + 1) l.length - 1 = max (belowN l r.lo) (belowN l r.hi) by omega]
            refine ⟨below_ge hr (by omega) (by omega), ?_⟩
            unfold inP
            rw [below_ge (k := r.hi) hr (by omega) (by omega), hop]; simp
        · right; omega
    rw [hbad, if_neg (by simp)]
    congr 1
    have hsp : l = l.take (firstP l r) ++ (pairsP l r ++ l.drop (endP l r)) := by
      have e1 : l.drop (endP l r) = (l.drop (firstP l r)).drop (endP l r - firstP l r) := by rw [List.drop_drop, show firstP l r + (endP l r - firstP l r) = endP l r by omega]
      unfold pairsP
      rw [e1, List.take_append_drop, List.take_append_drop]
    have f1 : (l.take (firstP l r)).filter (fun p => inP r p.1) = [] := by
      rw [List.filter_eq_nil_iff]
      intro p hp
      obtain ⟨j, hj⟩ := List.mem_iff_getElem?.1 hp
      rw [List.getElem?_take] at hj
      split at hj
      · rename_i hlt
        have := (List.getElem?_eq_some_iff.1 hj).1
        rw [prAt_get this] at hj
        obtain rfl := Option.some.inj hj
        simp [hlo j hlt]
      · cases hj
    have f2 : (l.drop (endP l r)).filter (fun p => inP r p.1) = [] := by
      rw [List.filter_eq_nil_iff]
      intro p hp
      obtain ⟨j, hj⟩ := List.mem_iff_getElem?.1 hp
      rw [List.getElem?_drop] at hj
      have := (List.getElem?_eq_some_iff.1 hj).1
      rw [prAt_get this] at hj
      obtain rfl := Option.some.inj hj
      simp [hhi _ (by omega) this]
    conv => rhs; rw [hsp]
    rw [List.filter_append, List.filter_append, f1, f2, List.nil_append, List.append_nil]
end Go.Proofs.YtbobamifpjlmiaaDoor
