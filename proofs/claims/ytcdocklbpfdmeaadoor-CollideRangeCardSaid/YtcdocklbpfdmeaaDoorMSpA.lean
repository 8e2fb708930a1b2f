import Derived.Test.YtcdocklbpfdmeaaDoorMTop1
import Derived.Test.YtcdocklbpfdmeaaDoorMLbA
import Derived.Test.YtcdocklbpfdmeaaDoorMRtA
import Derived.Test.YtcdocklbpfdmeaaDoorMVer

/- Collide: spans, the plain law: which are accepted, their clash, what it tells; by the whole width they are the search's. -/
set_option linter.unusedSimpArgs false
set_option linter.unusedVariables false
set_option linter.unnecessarySimpa false
set_option maxRecDepth 20000
namespace Go.Proofs.YtcdocklbpfdmeaaDoor
open Go.RowKit
/-- Do a span's ends say that nothing else stands in the range? -/
def endC (r : Rg) (T F : Int) (ps : List Pr) : Bool :=
  decide (ps.length = 0) || ((decide (F = 0) || ltS (keyAt ps 0) r.lo) && (decide (F + ps.length = T) || (!ltS (keyAt ps (ps.length - 1)) r.lo && !inP r (keyAt ps (ps.length - 1)))))
def formC (r : Rg) (T F : Int) (ps : List Pr) : Bool := decide (okS T F ps) && (decide (0 < ps.length) || decide (T = 0)) && endC r T F ps
/-- What the top of a span is, with what is left of its path, and the clash. -/
def spanTop (S : List UInt8 → Dg) (l : List Pr) (T F : Int) (ps : List Pr) (qs : List Dg) : Option (Dg × List Dg × Cl) :=
  if T = 0 then some (zeroD, qs, none) else spanC S zeroD leafL F.toNat ps 0 T.toNat qs (if T = l.length then l else []) none
def outS (S : List UInt8 → Dg) (is : List UInt8) (T : Nat) : Option (Dg × List Dg × Cl) → Bool × Cl
  | none => (false, none)
  | some (t, q, c) => if q = [] then (decide (S (crownL T t) = S is), (putC S (crownL T t) is c).2) else (false, c)
def isL (S : List UInt8 → Dg) (l : List Pr) : List UInt8 := crownL l.length (topC S zeroD leafL l)
/-- Whether a span is accepted, and its first clash. -/
def spansC (W : Int) (l : List Pr) (r : Rg) (T F : Int) (ps : List Pr) (qs : List Dg) : Bool × Cl :=
  if rightP l = true ∧ formC r T F ps = true ∧ 0 ≤ W ∧ W ≤ 256 then outS (sumW W.toNat) (isL (sumW W.toNat) l) T.toNat (spanTop (sumW W.toNat) l T F ps qs) else (false, none)
/-- The clash of a span. -/
def spanT (W : Int) (l : List Pr) (r : Rg) (T F : Int) (ps : List Pr) (qs : List Dg) : Cl :=
  tellC ((spansC W l r T F ps qs).1 && !decide ((ps.filter fun p => inP r p.1) = l.filter fun p => inP r p.1)) (spansC W l r T F ps qs).2
theorem spans_true {W : Int} {l : List Pr} {r : Rg} {T F : Int} {ps : List Pr} {qs : List Dg} (h : (spansC W l r T F ps qs).1 = true) : rightP l = true ∧ formC r T F ps = true ∧ 0 ≤ W ∧ W ≤ 256 := by
  unfold spansC at h
  split at h
  · assumption
  · cases h
theorem form_ok {r : Rg} {T F : Int} {ps : List Pr} (h : formC r T F ps = true) : okS T F ps ∧ (0 < ps.length ∨ T = 0) ∧ endC r T F ps = true := by
  unfold formC at h
  simp only [Bool.and_eq_true, Bool.or_eq_true, decide_eq_true_eq] at h
  exact ⟨h.1.1, h.1.2, h.2⟩
theorem putH_short {S : List UInt8 → Dg} {a : List UInt8} {b : Option (List UInt8)} {c : Cl} (h : ShortC c) (ha : a.length ≤ 1000) (hb : ∀ x, b = some x → x.length ≤ 1000) : ShortC (putH S a b c).2 := by
  cases b with
  | none => exact h
  | some b => exact putC_short h ha (hb b rfl)
/-- Short pairs. -/
def ShortP (l : List Pr) : Prop := ∀ p ∈ l, p.1.size ≤ 300 ∧ p.2.size ≤ 300
theorem someL_le {s : ByteArray} (h : s.size ≤ 300) : (someL s).length ≤ 302 := by
  unfold someL
  rw [List.length_append, hiL_len, List.length_take, Array.length_toList]
  have : s.data.size = s.size := rfl
  omega
theorem leafL_le {p : Pr} (h : p.1.size ≤ 300 ∧ p.2.size ≤ 300) : (leafL p).length ≤ 1000 := by
  unfold leafL
  have h1 := someL_le h.1
  have h2 := someL_le h.2
  rw [List.length_append, List.length_append, List.length_singleton]
  omega
theorem spanC_short {S : List UInt8 → Dg} {z : Dg} (n : Nat) : ∀ (first : Nat) (pairs : List Pr) (a : Nat) (path : List Dg) (l : List Pr) (c : Cl) (x : Dg × List Dg × Cl), ShortP pairs → ShortP l → spanC S z leafL first pairs a n path l c = some x → ShortC c → ShortC x.2.2 := by
  induction n using Nat.strongRecOn with
  | _ n ih =>
    intro first pairs a path l c x hp hl h hc
    by_cases ho : a + n ≤ first ∨ first + pairs.length ≤ a
    · rw [spanC_out ho] at h
      obtain ⟨q, _, rfl⟩ := Option.map_eq_some_iff.1 h; exact hc
    · by_cases hn : n < 2
      · rw [spanC_one ho hn] at h
        obtain ⟨p, hpp, rfl⟩ := Option.map_eq_some_iff.1 h
        refine putH_short hc (leafL_le (hp p (List.mem_of_getElem? hpp))) fun y hy => ?_
        obtain ⟨q, hq, rfl⟩ := Option.map_eq_some_iff.1 hy
        exact leafL_le (hl q (List.mem_of_mem_head? hq))
      · have h1 := split_lt (n := n) (by omega)
        have h3 := split_pos n
        rw [spanC_two ho (by omega)] at h
        obtain ⟨y, hy, h⟩ := Option.bind_eq_some_iff.1 h
        obtain ⟨u, hu, rfl⟩ := Option.map_eq_some_iff.1 h
        refine putH_short (ih _ (by omega) _ _ _ _ _ _ _ hp (fun p hp => hl p (List.mem_of_mem_drop hp)) hu (ih _ (by omega) _ _ _ _ _ _ _ hp (fun p hp => hl p (List.mem_of_mem_take hp)) hy hc)) (twoL_le _ _) fun x hx => ?_
        split at hx
        · cases hx
        · obtain rfl := Option.some.inj hx; exact twoL_le _ _
theorem spanTop_good {S : List UInt8 → Dg} {l : List Pr} {T F : Int} {ps : List Pr} {qs : List Dg} {x : Dg × List Dg × Cl} (h : spanTop S l T F ps qs = some x) : GoodC S x.2.2 := by
  unfold spanTop at h
  split at h
  · obtain rfl := Option.some.inj h; exact goodC_none
  · exact spanC_good _ _ _ _ _ _ _ _ h goodC_none
theorem spanTop_short {S : List UInt8 → Dg} {l : List Pr} {T F : Int} {ps : List Pr} {qs : List Dg} {x : Dg × List Dg × Cl} (hp : ShortP ps) (hl : ShortP l) (h : spanTop S l T F ps qs = some x) : ShortC x.2.2 := by
  unfold spanTop at h
  split at h
  · obtain rfl := Option.some.inj h; exact fun _ h => by cases h
  · refine spanC_short _ _ _ _ _ _ _ _ hp ?_ h (fun _ h => by cases h)
    split
    · exact hl
    · intro p hp; cases hp
/-- A told clash is one, and the span was accepted. -/
theorem spanT_is {W : Int} {l : List Pr} {r : Rg} {T F : Int} {ps : List Pr} {qs : List Dg} {x : List UInt8 × List UInt8} (hp : ShortP ps) (hl : ShortP l) (h : spanT W l r T F ps qs = some x) : (spansC W l r T F ps qs).1 = true ∧ isC W x.1 x.2 = true ∧ x.1.length ≤ 1000 ∧ x.2.length ≤ 1000 := by
  have ht : (spansC W l r T F ps qs).1 = true ∧ (spansC W l r T F ps qs).2 = some x := by
    unfold spanT tellC at h
    split at h
    · rename_i hh
      exact ⟨(Bool.and_eq_true_iff.1 hh).1, h⟩
    · cases h
  obtain ⟨h1, h2⟩ := ht
  obtain ⟨g1, g2, g3, g4⟩ := spans_true h1
  refine ⟨h1, ?_⟩
  unfold spansC at h1 h2
  rw [if_pos ⟨g1, g2, g3, g4⟩] at h1 h2
  cases hc : spanTop (sumW W.toNat) l T F ps qs with
  | none => rw [hc] at h2; cases h2
  | some y =>
    obtain ⟨t, q, c⟩ := y
    rw [hc] at h1 h2
    unfold outS at h1 h2
    have hgo := spanTop_good hc
    have hsh := spanTop_short hp hl hc
    by_cases hq : q = []
    · simp only [if_pos hq] at h2
      have a1 := putC_good hgo x h2
      have a2 := putC_short hsh (crownL_len _ _) (crownL_len _ _) x h2
      refine ⟨?_, a2⟩
      unfold isC
      rw [show wideB W = true from decide_eq_true ⟨g3, g4⟩, decide_eq_false a1.1, decide_eq_true a1.2]
      rfl
    · simp only [if_neg hq] at h1
      cases h1
theorem right_len2 {l : List Pr} (h : rightP l = true) : l.length ≤ 200 := by
  refine Classical.byContradiction fun hn => ?_
  have := right_iff.1 h 200 (by omega)
  unfold badAt at this
  simp at this
/-- What is accepted without a clash is so. -/
theorem spans_so {W : Int} {l : List Pr} {r : Rg} {T F : Int} {ps : List Pr} {qs : List Dg} (h : (spansC W l r T F ps qs).1 = true) (ht : spanT W l r T F ps qs = none) : (ps.filter fun p => inP r p.1) = l.filter fun p => inP r p.1 := by
  obtain ⟨g1, g2, g3, g4⟩ := spans_true h
  refine Classical.byContradiction fun hb => ?_
  unfold spanT tellC at ht
  rw [h, decide_eq_false hb] at ht
  have ht : (spansC W l r T F ps qs).2 = none := ht
  refine hb ?_
  clear hb
  unfold spansC at h ht
  rw [if_pos ⟨g1, g2, g3, g4⟩] at h ht
  obtain ⟨⟨k1, k2, k3, k4, k5, k6⟩, k7, k8⟩ := form_ok g2
  have hl := right_len2 g1
  obtain ⟨Tn, rfl⟩ : ∃ Tn : Nat, T = Tn := ⟨T.toNat, by omega⟩
  obtain ⟨Fn, rfl⟩ : ∃ Fn : Nat, F = Fn := ⟨F.toNat, by omega⟩
  cases hc : spanTop (sumW W.toNat) l Tn Fn ps qs with
  | none => rw [hc] at h; cases h
  | some y =>
    obtain ⟨t, q, c⟩ := y
    rw [hc] at h ht
    unfold outS at h ht
    by_cases hq : q = []
    · simp only [if_pos hq, Int.toNat_natCast] at h ht
      obtain ⟨rfl, he⟩ := putC_none ht
      have he := he (of_decide_eq_true h)
      unfold isL at he
      obtain ⟨rfl, rfl⟩ := crownL_inj (by omega) (by omega) he
      by_cases h0 : l.length = 0
      · obtain rfl := List.eq_nil_of_length_eq_zero h0
        obtain rfl := List.eq_nil_of_length_eq_zero (show ps.length = 0 by simp at k4; omega)
        rfl
      · unfold spanTop at hc
        rw [if_neg (by omega), if_pos rfl, Int.toNat_natCast, Int.toNat_natCast] at hc
        have hs := (spanC_so _ _ _ _ _ _ _ _ _ rfl (by omega) hc rfl).2
        have hp : 0 < ps.length := by rcases k7 with k7 | k7 <;> omega
        have hfit := right_fit g1
        have hfp := right_fit k6
        refine range_so g1 (f := Fn) (fun j hj => ?_) (by omega) hp ?_ ?_
        · have h1 := hs (Fn + j) (ps[j]) (by omega) (by omega) (by rw [show 0 + (Fn + j) - Fn = j by omega]; exact List.getElem?_eq_getElem hj)
          obtain ⟨u, hu1, hu2⟩ := Option.map_eq_some_iff.1 h1
          have := leafL_inj (hfit u (List.mem_of_getElem? hu1)) (hfp ps[j] (List.getElem_mem hj)) hu2
          rw [List.getElem?_eq_getElem hj, hu1, this]
        · unfold endC at k8
          simp only [Bool.or_eq_true, Bool.and_eq_true, decide_eq_true_eq] at k8
          rcases k8 with k8 | ⟨k8 | k8, _⟩
          · omega
          · exact Or.inl (by omega)
          · exact Or.inr k8
        · unfold endC at k8
          simp only [Bool.or_eq_true, Bool.and_eq_true, decide_eq_true_eq, Bool.not_eq_true'] at k8
          rcases k8 with k8 | ⟨_, k8 | k8⟩
          · omega
          · exact Or.inl (by omega)
          · exact Or.inr k8
    · simp only [if_neg hq] at h
      cases h
attribute [local irreducible] sumD
theorem topC_topP (l : List Pr) : topC sumD zeroD leafL l = topP l := by
  unfold topC topP
  by_cases h : l.length = 0
  · obtain rfl := List.eq_nil_of_length_eq_zero h
    rw [if_pos (show ([] : List Pr).length = 0 from rfl)]
    exact overC_nil _
  · rw [if_neg h, ← overC_root]
    have : ∀ N (z z' : Dg) (k : List Dg), k.length = N → N ≠ 0 → overC sumD z k = overC sumD z' k := by
      intro N
      induction N using Nat.strongRecOn with
      | _ N ih =>
        intro z z' k hN h0
        by_cases h2 : k.length < 2
        · obtain ⟨a, rfl⟩ : ∃ a, k = [a] := List.length_eq_one_iff.1 (by omega)
          rw [overC_one, overC_one]
        · have h1 := split_lt (n := k.length) (by omega)
          have h3 := split_pos k.length
          rw [overC_two (z := z) (l := k) (by omega), overC_two (z := z') (l := k) (by omega), ih (splitN k.length) (by omega) z z' (k.take (splitN k.length)) (by rw [List.length_take]; omega) (by omega), ih (k.length - splitN k.length) (by omega) z z' (k.drop (splitN k.length)) (by rw [List.length_drop]) (by omega)]
    exact this _ _ _ _ rfl (by simpa using h)
theorem crown_sum (n : Nat) (hn : n ≤ 1000) (d : Dg) : sumD (crownL n d) = crownD n d := by
  unfold crownL crownD
  rw [show ((n : Int) % 4294967296).toNat = n by omega]
/-- By the whole width it is the search's. -/
theorem spans_search {l : List Pr} (hr : rightP l = true) (r : Rg) (T F : Int) (ps : List Pr) (qs : List Dg) : (spansC 256 l r T F ps qs).1 = (verS (rootP l) r T F ps qs).isSome := by
  have hl := right_len2 hr
  unfold spansC
  have e6 : (256 : Int).toNat = 256 := rfl
  rw [e6, sumW_full (Nat.le_refl _)]
  unfold isL
  rw [topC_topP]
  by_cases hf : formC r T F ps = true
  · rw [if_pos ⟨hr, hf, by decide, by decide⟩]
    obtain ⟨hok, k7, k8⟩ := form_ok hf
    have hok' := hok
    obtain ⟨k1, k2, k3, k4, k5, k6⟩ := hok'
    obtain ⟨Tn, rfl⟩ : ∃ Tn : Nat, T = Tn := ⟨T.toNat, by omega⟩
    obtain ⟨Fn, rfl⟩ : ∃ Fn : Nat, F = Fn := ⟨F.toNat, by omega⟩
    have hro : rootP l = crownD l.length (topP l) := rfl
    have hb : (Tn : Int) ≠ 0 → badV r Tn Fn ps = false := fun h0 => by
      unfold endC at k8
      unfold badV
      have hp : ¬ ps.length = 0 := by rcases k7 with k7 | k7 <;> omega
      rw [decide_eq_false hp, Bool.false_or, Bool.and_eq_true] at k8
      obtain ⟨e1, e2⟩ := k8
      rw [Bool.or_eq_false_iff]
      constructor
      · by_cases hz : (Fn : Int) = 0
        · rw [decide_eq_false (show ¬ (0 : Int) < Fn by omega), Bool.and_false]
        · rw [decide_eq_false hz, Bool.false_or] at e1
          rw [e1]; rfl
      · by_cases hz : (Fn : Int) + ps.length = Tn
        · rw [decide_eq_false (show ¬ (Fn : Int) + ps.length < Tn by omega), Bool.and_false]
        · rw [decide_eq_false hz, Bool.false_or, Bool.and_eq_true, Bool.not_eq_true', Bool.not_eq_true'] at e2
          rw [e2.1, e2.2]; rfl
    rw [Int.toNat_natCast]
    unfold verS topS
    rw [if_pos hok]
    by_cases h0 : Tn = 0
    · subst h0
      have hs : spanTop sumD l (0 : Nat) Fn ps qs = some (zeroD, qs, none) := by unfold spanTop; rw [if_pos (show ((0 : Nat) : Int) = 0 from rfl)]
      rw [hs]
      unfold outS
      simp only
      rw [if_pos (show ((0 : Nat) : Int) = 0 from rfl)]
      by_cases hq : qs = []
      · subst hq
        rw [if_pos rfl, if_pos (show ([] : List Dg).length = 0 from rfl), crown_sum _ (by omega), crown_sum _ (by omega), hro]
        by_cases hc : crownD 0 zeroD = crownD l.length (topP l)
        · rw [if_pos (congrArg some hc)]
          exact decide_eq_true hc
        · rw [if_neg (fun h => hc (Option.some.inj h))]
          exact decide_eq_false hc
      · rw [if_neg hq, if_neg (show ¬ qs.length = 0 from fun h => hq (List.eq_nil_of_length_eq_zero h)), if_neg (fun h => by cases h)]
        rfl
    · have hp : ¬ ps.length = 0 := by rcases k7 with k7 | k7 <;> omega
      have hs : spanTop sumD l Tn Fn ps qs = spanC sumD zeroD leafL Fn ps 0 Tn qs (if (Tn : Int) = l.length then l else []) none := by unfold spanTop; rw [if_neg (by omega), Int.toNat_natCast, Int.toNat_natCast]
      have ht := spanC_tree ps qs Fn Tn 0 0 (if (Tn : Int) = l.length then l else []) none (by omega) (by omega)
      rw [List.drop_zero] at ht
      rw [hs, if_neg (show ¬ (Tn : Int) = 0 by omega), if_neg hp, Int.toNat_natCast, Int.toNat_natCast, hb (by omega)]
      generalize treeD (FT ps qs Fn) 0 Tn 0 = u at ht ⊢
      by_cases hu : u.2 ≤ qs.length
      · rw [if_pos hu] at ht
        obtain ⟨c', hc'⟩ := ht
        rw [hc']
        unfold outS
        simp only
        by_cases hq : u.2 = qs.length
        · rw [if_pos (by rw [hq, List.drop_length]), if_pos hq, crown_sum _ (by omega), crown_sum _ (by omega), hro]
          by_cases hc : crownD Tn u.1 = crownD l.length (topP l)
          · rw [if_pos (congrArg some hc), if_neg (by omega)]
            exact decide_eq_true hc
          · rw [if_neg (fun h => hc (Option.some.inj h))]
            exact decide_eq_false hc
        · rw [if_neg (fun h => hq (by have := congrArg List.length h; rw [List.length_drop, List.length_nil] at this; omega)), if_neg hq, if_neg (fun h => by cases h)]
          rfl
      · rw [if_neg hu] at ht
        rw [ht, if_neg (show ¬ u.2 = qs.length by omega), if_neg (fun h => by cases h)]
        rfl
  · rw [if_neg (by rintro ⟨_, h, _⟩; exact hf h)]
    unfold verS
    by_cases ht : topS T F ps qs = some (rootP l)
    · rw [if_pos ht]
      unfold topS at ht
      by_cases hok : okS T F ps
      · rw [if_pos hok] at ht
        have hok' := hok
        obtain ⟨k1, k2, k3, k4, k5, k6⟩ := hok'
        by_cases h0 : T = 0
        · exfalso
          apply hf
          unfold formC endC
          have hp : ps.length = 0 := by omega
          rw [decide_eq_true hok, decide_eq_true h0, decide_eq_true hp]
          simp
        · rw [if_neg h0] at ht ⊢
          by_cases hp : ps.length = 0
          · rw [if_pos hp] at ht; cases ht
          · have hbad : badV r T F ps = true := by
              refine Classical.byContradiction fun hb => hf ?_
              have hb : badV r T F ps = false := by simpa using hb
              unfold badV at hb
              rw [Bool.or_eq_false_iff, Bool.and_eq_false_iff, Bool.and_eq_false_iff, Bool.not_eq_false', Bool.or_eq_false_iff] at hb
              unfold formC endC
              rw [decide_eq_true hok, decide_eq_true (show 0 < ps.length by omega), decide_eq_false hp]
              simp only [Bool.true_or, Bool.true_and, Bool.false_or, Bool.and_eq_true, Bool.or_eq_true, decide_eq_true_eq, Bool.not_eq_true']
              refine ⟨?_, ?_⟩
              · rcases hb.1 with h | h
                · exact Or.inr h
                · exact Or.inl (by have := of_decide_eq_false h; omega)
              · rcases hb.2 with h | h
                · exact Or.inr h
                · exact Or.inl (by have := of_decide_eq_false h; omega)
            rw [hbad]; rfl
      · rw [if_neg hok] at ht; cases ht
    · rw [if_neg ht]; rfl
theorem ver_filter {R : Dg} {r : Rg} {T F : Int} {ps : List Pr} {qs : List Dg} {x : List Pr} (h : verS R r T F ps qs = some x) : x = ps.filter fun p => inP r p.1 := by
  unfold verS at h
  split at h
  · rename_i ht
    split at h
    · obtain rfl := Option.some.inj h
      unfold topS at ht
      split at ht
      · rename_i h0 hok
        obtain ⟨k1, k2, k3, k4, k5, k6⟩ := hok
        obtain rfl := List.eq_nil_of_length_eq_zero (show ps.length = 0 by omega)
        rfl
      · cases ht
    · split at h
      · cases h
      · exact (Option.some.inj h).symm
  · cases h
end Go.Proofs.YtcdocklbpfdmeaaDoor
