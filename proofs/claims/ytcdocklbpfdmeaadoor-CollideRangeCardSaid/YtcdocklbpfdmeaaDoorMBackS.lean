import Derived.Test.YtcdocklbpfdmeaaDoorMVer

/- Search: the document's top; what is proved is accepted. The plain law. -/
set_option linter.unusedSimpArgs false
set_option linter.unusedVariables false
set_option maxRecDepth 20000
namespace Go.Proofs.YtcdocklbpfdmeaaDoor
open Go.RowKit
/-- The path, as the document says it. -/
def pathR (l : List Pr) (at_ first end_ : Nat) : List Dg :=
  if at_ + l.length ≤ first ∨ end_ ≤ at_ then [topP l]
  else if h : 2 ≤ l.length then
    have h1 := split_lt h
    have h2 := split_pos l.length
    have : (l.take (splitN l.length)).length < l.length := by rw [List.length_take]; omega
    have : (l.drop (splitN l.length)).length < l.length := by rw [List.length_drop]; omega
    pathR (l.take (splitN l.length)) at_ first end_ ++ pathR (l.drop (splitN l.length)) (at_ + splitN l.length) first end_
  else []
termination_by l.length
theorem pathR_out {l : List Pr} {at_ first end_ : Nat} (h : at_ + l.length ≤ first ∨ end_ ≤ at_) : pathR l at_ first end_ = [topP l] := by unfold pathR; rw [if_pos h]
theorem pathR_one {l : List Pr} {at_ first end_ : Nat} (h : ¬ (at_ + l.length ≤ first ∨ end_ ≤ at_)) (h2 : ¬ 2 ≤ l.length) : pathR l at_ first end_ = [] := by unfold pathR; rw [if_neg h, dif_neg h2]
theorem pathR_two {l : List Pr} {at_ first end_ : Nat} (h : ¬ (at_ + l.length ≤ first ∨ end_ ≤ at_)) (h2 : 2 ≤ l.length) :
    pathR l at_ first end_ = pathR (l.take (splitN l.length)) at_ first end_ ++ pathR (l.drop (splitN l.length)) (at_ + splitN l.length) first end_ := by
  conv => lhs; unfold pathR
  rw [if_neg h, dif_pos h2]
/-- What Prove's closure gathers is the document's path. -/
theorem pathR_law (l0 : List Pr) (first end_ : Nat) (n : Nat) : ∀ (at_ : Nat) (path : List Dg), 1 ≤ n → at_ + n ≤ l0.length → (treeD (FP l0 first end_) at_ n path).2 = path ++ pathR ((l0.drop at_).take n) at_ first end_ := by
  induction n using Nat.strongRecOn with
  | ind n ih =>
    intro at_ path h1 h2
    have hl : ((l0.drop at_).take n).length = n := by rw [List.length_take, List.length_drop]; omega
    by_cases ho : at_ + n ≤ first ∨ end_ ≤ at_
    · rw [tree_done (d := topP ((l0.drop at_).take n)) (s1 := path ++ [topP ((l0.drop at_).take n)]) (by unfold FP; rw [if_pos ho]), pathR_out (by rw [hl]; exact ho)]
    · by_cases hn : n = 1
      · subst hn
        rw [tree_done (d := zeroD) (s1 := path) (by unfold FP; rw [if_neg ho, if_pos rfl]), pathR_one (by rw [hl]; exact ho) (by omega), List.append_nil]
      · have k1 := split_lt (n := n) (by omega)
        have k2 := split_pos n
        rw [tree_more (s1 := path) (by unfold FP; rw [if_neg ho, if_neg hn]) (by omega), ih _ k1 at_ path k2 (by omega)]
        simp only
        rw [ih (n - splitN n) (by omega) (at_ + splitN n) _ (by omega) (by omega), pathR_two (l := (l0.drop at_).take n) (by rw [hl]; exact ho) (by omega), hl, List.append_assoc, List.take_take, Nat.min_eq_left (by omega), List.drop_take, List.drop_drop]
theorem pathS_doc (l : List Pr) (r : Rg) (h : 0 < l.length) : pathS l r = pathR l 0 (firstP l r) (endP l r) := by
  unfold pathS
  rw [if_neg (by omega), pathR_law l _ _ l.length 0 [] h (by omega), List.drop_zero, List.take_length, List.nil_append]
theorem below_lt {l : List Pr} {k : ByteArray} : ∀ j, j < belowN l k → ltS (prAt l j).1 k = true := by
  induction l with
  | nil => intro j hj; simp [belowN] at hj
  | cons p l ih =>
    intro j hj
    unfold belowN at hj
    rw [List.takeWhile_cons] at hj
    cases hp : ltS p.1 k with
    | false => rw [hp] at hj; simp at hj
    | true =>
      rw [hp] at hj
      cases j with
      | zero => exact hp
      | succ j => exact ih j (by simpa [belowN] using hj)
theorem below_at {l : List Pr} {k : ByteArray} : belowN l k < l.length → ltS (prAt l (belowN l k)).1 k = false := by
  induction l with
  | nil => intro h; simp at h
  | cons p l ih =>
    intro h
    unfold belowN at h ⊢
    rw [List.takeWhile_cons] at h ⊢
    cases hp : ltS p.1 k with
    | false => exact hp
    | true =>
      rw [hp] at h
      simp only [if_true, List.length_cons] at h ⊢
      exact ih (by unfold belowN; omega)
theorem below_ge {l : List Pr} {k : ByteArray} (hr : rightP l = true) {j : Nat} (h : belowN l k ≤ j) (hj : j < l.length) : ltS (prAt l j).1 k = false := by
  have h0 := below_at (l := l) (k := k) (by omega)
  rcases Nat.lt_or_ge (belowN l k) j with h2 | h2
  · cases hb : ltS (prAt l j).1 k with
    | false => rfl
    | true => rw [ltS_trans (sorted_lt hr j _ h2 hj) hb] at h0; cases h0
  · obtain rfl : j = belowN l k := by omega
    exact h0
theorem prAt_sub {l : List Pr} {f m i : Nat} (hi : i < m) : prAt ((l.drop f).take m) i = prAt l (f + i) := by
  unfold prAt
  rw [List.getD_eq_getElem?_getD, List.getD_eq_getElem?_getD, List.getElem?_take, if_pos hi, List.getElem?_drop]
theorem back_tree (l0 : List Pr) (first end_ : Nat) (hfe : first ≤ end_) (he : end_ ≤ l0.length) (qs : List Dg) (n : Nat) : ∀ at_ k, 1 ≤ n → at_ + n ≤ l0.length →
    (∀ j d, (pathR ((l0.drop at_).take n) at_ first end_)[j]? = some d → qs[k + j]? = some d) →
    treeD (FT ((l0.drop first).take (end_ - first)) qs first) at_ n k = (topP ((l0.drop at_).take n), k + (pathR ((l0.drop at_).take n) at_ first end_).length) := by
  have hpl : ((l0.drop first).take (end_ - first)).length = end_ - first := by rw [List.length_take, List.length_drop]; omega
  induction n using Nat.strongRecOn with
  | ind n ih =>
    intro at_ k h1 h2 hq
    have hl : ((l0.drop at_).take n).length = n := by rw [List.length_take, List.length_drop]; omega
    by_cases ho : at_ + n ≤ first ∨ end_ ≤ at_
    · rw [pathR_out (by rw [hl]; exact ho)] at hq ⊢
      have := hq 0 _ rfl
      rw [tree_done (d := topP ((l0.drop at_).take n)) (s1 := k + 1) (by unfold FT; rw [if_pos (by rw [hpl]; omega), List.getD_eq_getElem?_getD, show k = k + 0 from rfl, this]; rfl)]
      rfl
    · by_cases hn : n = 1
      · subst hn
        rw [pathR_one (by rw [hl]; exact ho) (by omega)]
        have hx : (l0.drop at_).take 1 = [prAt l0 at_] := by
          have h3 : prAt l0 at_ = l0[at_] := by simp [prAt, List.getD_eq_getElem?_getD, List.getElem?_eq_getElem (show at_ < l0.length by omega)]
          rw [List.drop_eq_getElem_cons (show at_ < l0.length by omega), h3]; rfl
        rw [tree_done (d := leafP (prAt l0 at_)) (s1 := k) (by unfold FT; rw [if_neg (by rw [hpl]; omega), if_pos rfl, prAt_sub (by omega), show first + (at_ - first) = at_ by omega]), hx, topP_one]
        rfl
      · have k1 := split_lt (n := n) (by omega)
        have k2 := split_pos n
        have e1 : ((l0.drop at_).take n).take (splitN n) = (l0.drop at_).take (splitN n) := by rw [List.take_take, Nat.min_eq_left (by omega)]
        have e2 : ((l0.drop at_).take n).drop (splitN n) = (l0.drop (at_ + splitN n)).take (n - splitN n) := by rw [List.drop_take, List.drop_drop]
        have hp := pathR_two (l := (l0.drop at_).take n) (at_ := at_) (first := first) (end_ := end_) (by rw [hl]; exact ho) (by omega)
        have ht := topP_two (l := (l0.drop at_).take n) (by omega)
        rw [hl, e1, e2] at hp ht
        rw [hp] at hq ⊢
        rw [ht]
        rw [tree_more (s1 := k) (by unfold FT; rw [if_neg (by rw [hpl]; omega), if_neg hn]) (by omega)]
        rw [ih _ k1 at_ k k2 (by omega) (fun j d hd => hq j d (by rw [List.getElem?_append_left (List.getElem?_eq_some_iff.1 hd).1]; exact hd))]
        simp only
        rw [ih (n - splitN n) (by omega) (at_ + splitN n) _ (by omega) (by omega) (fun j d hd => by
          have := hq ((pathR ((l0.drop at_).take (splitN n)) at_ first end_).length + j) d (by rw [List.getElem?_append_right (by omega), Nat.add_sub_cancel_left]; exact hd)
          rwa [← Nat.add_assoc] at this)]
        simp only [List.length_append, Nat.add_assoc]
theorem right_sub {l : List Pr} (hr : rightP l = true) (f m : Nat) : rightP ((l.drop f).take m) = true := by
  have hL := right_len hr
  rw [right_iff] at hr ⊢
  intro i hi
  rw [List.length_take, List.length_drop] at hi
  have h := hr (f + i) (by omega)
  unfold badAt at h ⊢
  rw [prAt_sub (by omega)]
  simp only [Bool.or_eq_false_iff, decide_eq_false_iff_not, Bool.and_eq_false_iff] at h ⊢
  obtain ⟨⟨⟨⟨a1, a2⟩, a3⟩, a4⟩, a5⟩ := h
  refine ⟨⟨⟨⟨a1, a2⟩, a3⟩, ?_⟩, by omega⟩
  by_cases h0 : 0 < i
  · right
    rw [prAt_sub (by omega), show f + (i - 1) = f + i - 1 by omega]
    rcases a4 with a4 | a4
    · omega
    · exact a4
  · left; omega
theorem back_top {l : List Pr} (hr : rightP l = true) (r : Rg) : topS l.length (firstP l r) (pairsP l r) (pathS l r) = some (rootP l) := by
  have hL := right_len hr
  obtain ⟨h1, h2, h3⟩ := first_end l r
  have hpl := pairs_len l r
  have hok : okS l.length (firstP l r) (pairsP l r) := ⟨by omega, by omega, by omega, by omega, by omega, right_sub hr _ _⟩
  unfold topS
  rw [if_pos hok]
  by_cases h0 : l.length = 0
  · obtain rfl := List.eq_nil_of_length_eq_zero h0
    rw [if_pos (by simp), if_pos (by simp [pathS])]
    unfold rootP topP
    simp
  · have hend : firstP l r < endP l r := by
      have := h3 (by omega)
      unfold endP firstP at *
      split <;> omega
    have hb := back_tree l (firstP l r) (endP l r) h1 h2 (pathS l r) l.length 0 0 (by omega) (by omega) (fun j d hd => by
      rw [List.drop_zero, List.take_length] at hd
      rw [pathS_doc l r (by omega), Nat.zero_add]; exact hd)
    rw [List.drop_zero, List.take_length, ← pathS_doc l r (by omega), Nat.zero_add] at hb
    rw [if_neg (by omega), if_neg (by omega)]
    unfold pairsP
    simp only [Int.toNat_natCast]
    rw [hb, if_pos rfl]
    rfl
theorem back_ver {l : List Pr} (hr : rightP l = true) (r : Rg) : verS (rootP l) r l.length (firstP l r) (pairsP l r) (pathS l r) = some (l.filter fun p => inP r p.1) := by
  have hL := right_len hr
  obtain ⟨h1, h2, h3⟩ := first_end l r
  have hpl := pairs_len l r
  unfold verS
  rw [if_pos (back_top hr r)]
  by_cases h0 : l.length = 0
  · obtain rfl := List.eq_nil_of_length_eq_zero h0
    rw [if_pos (by simp)]; rfl
  · have h4 := h3 (by omega)
    have hblo := below_le l r.lo
    have hbhi := below_le l r.hi
    have hend : firstP l r < endP l r := by
      unfold endP firstP at *
      split <;> omega
    rw [if_neg (by omega)]
    have hlo : ∀ j, j < firstP l r → inP r (prAt l j).1 = false := fun j hj => by
      unfold inP
      rw [below_lt j (by unfold firstP at hj; omega)]; rfl
    have hhi : ∀ j, endP l r ≤ j → j < l.length → inP r (prAt l j).1 = false := fun j hj hj2 => by
      unfold endP at hj
      unfold inP
      cases hop : r.op with
      | true => rw [hop] at hj; simp only [if_true] at hj; omega
      | false =>
        rw [hop] at hj
        simp only [Bool.false_eq_true, if_false] at hj
        rw [below_ge (k := r.hi) hr (by omega) hj2]; simp
    have hbad : badV r l.length (firstP l r) (pairsP l r) = false := by
      unfold badV keyAt
      rw [hpl]
      unfold pairsP
      rw [prAt_sub (by omega), prAt_sub (by omega), Nat.add_zero, show firstP l r + (endP l r - firstP l r - 1) = endP l r - 1 by omega]
      simp only [Bool.or_eq_false_iff, Bool.and_eq_false_iff, decide_eq_false_iff_not, Bool.not_eq_false']
      refine ⟨?_, ?_⟩
      · by_cases hf : 0 < firstP l r
        · left; exact below_lt _ (by unfold firstP at *; omega)
        · right; omega
      · by_cases he : endP l r < l.length
        · left
          unfold endP at he ⊢
          cases hop : r.op with
          | true => rw [hop] at he; simp only [if_true] at he; omega
          | false =>
            rw [hop] at he
            simp only [Bool.false_eq_true, if_false] at he ⊢
            rw [show min (max (belowN l r.lo) (belowN l r.hi) + 1) l.length - 1 = max (belowN l r.lo) (belowN l r.hi) by omega]
            refine ⟨below_ge hr (by omega) (by omega), ?_⟩
            unfold inP
            rw [below_ge (k := r.hi) hr (by omega) (by omega), hop]; simp
        · right; omega
    rw [hbad, if_neg (by simp)]
    congr 1
    have hsp : l = l.take (firstP l r) ++ (pairsP l r ++ l.drop (endP l r)) := by
      have e1 : l.drop (endP l r) = (l.drop (firstP l r)).drop (endP l r - firstP l r) := by rw [List.drop_drop, show firstP l r + (endP l r - firstP l r) = endP l r by omega]
      unfold pairsP
      rw [e1, List.take_append_drop, List.take_append_drop]
    have f1 : (l.take (firstP l r)).filter (fun p => inP r p.1) = [] := by
      rw [List.filter_eq_nil_iff]
      intro p hp
      obtain ⟨j, hj⟩ := List.mem_iff_getElem?.1 hp
      rw [List.getElem?_take] at hj
      split at hj
      · rename_i hlt
        have := (List.getElem?_eq_some_iff.1 hj).1
        rw [prAt_get this] at hj
        obtain rfl := Option.some.inj hj
        simp [hlo j hlt]
      · cases hj
    have f2 : (l.drop (endP l r)).filter (fun p => inP r p.1) = [] := by
      rw [List.filter_eq_nil_iff]
      intro p hp
      obtain ⟨j, hj⟩ := List.mem_iff_getElem?.1 hp
      rw [List.getElem?_drop] at hj
      have := (List.getElem?_eq_some_iff.1 hj).1
      rw [prAt_get this] at hj
      obtain rfl := Option.some.inj hj
      simp [hhi _ (by omega) this]
    conv => rhs; rw [hsp]
    rw [List.filter_append, List.filter_append, f1, f2, List.nil_append, List.append_nil]
end Go.Proofs.YtcdocklbpfdmeaaDoor
