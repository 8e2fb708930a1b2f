import Derived.Test.YtdohohafdplkiaaMDkFf

/- What a crash does is what was kept, and what stands far ahead of that: the plain law of the law's own loops. -/
set_option linter.unusedSimpArgs false
set_option linter.unusedVariables false
set_option maxRecDepth 20000
namespace Go.Proofs.Ytdohohafdplkiaa
open Go.RowKit
/-- The last place below n that is kept; -1: none. -/
def lastI (keep : List Bool) (n : Nat) : Int := match topK keep n with | none => -1 | some k => k
theorem lastI_yes {keep : List Bool} {k : Nat} (h : keptL keep k = true) : lastI keep (k + 1) = k := by
  unfold lastI; rw [topK, if_pos h]
theorem lastI_no {keep : List Bool} {k : Nat} (h : keptL keep k = false) : lastI keep (k + 1) = lastI keep k := by
  unfold lastI; rw [topK, if_neg (by simp [h])]
theorem lastI_b (keep : List Bool) (n : Nat) : -1 ≤ lastI keep n ∧ lastI keep n < n := by
  unfold lastI
  cases h : topK keep n with
  | none => simp only; omega
  | some k => have := ((topK_spec keep n k).1 h).1; simp only; omega
/-- What is kept behind k rounds. -/
def updL (keep : List Bool) (la : Int) (k : Nat) : List Bool := keep.mapIdx fun j b => if j < k then b || decide ((j : Int) + 4 ≤ la) else b
theorem updL_len (keep : List Bool) (la : Int) (k : Nat) : (updL keep la k).length = keep.length := by simp [updL]
theorem updL_get (keep : List Bool) (la : Int) (k j : Nat) : (updL keep la k)[j]? = (keep[j]?).map fun b => if j < k then b || decide ((j : Int) + 4 ≤ la) else b := by
  simp [updL, List.getElem?_mapIdx]
theorem updL_zero (keep : List Bool) (la : Int) : updL keep la 0 = keep := by
  apply List.ext_getElem?
  intro j
  rw [updL_get]
  simp
theorem updL_set {keep : List Bool} {la : Int} {k : Nat} {b : Bool} (hb : keep[k]? = some b) : (updL keep la k).set k (b || decide ((k : Int) + 4 ≤ la)) = updL keep la (k + 1) := by
  apply List.ext_getElem?
  intro j
  have hk := (List.getElem?_eq_some_iff.1 hb).1
  by_cases hj : j = k
  · subst hj
    rw [List.getElem?_set_self (by rw [updL_len]; exact hk), updL_get, hb, Option.map_some, if_pos (by omega)]
  · rw [List.getElem?_set_ne (Ne.symm hj), updL_get, updL_get]
    congr 1
    funext c
    by_cases h : j < k
    · rw [if_pos h, if_pos (by omega)]
    · rw [if_neg h, if_neg (by omega)]
theorem updL_at {keep : List Bool} {la : Int} {k : Nat} {b : Bool} (hb : keep[k]? = some b) : (updL keep la k)[k]? = some b := by
  rw [updL_get, hb, Option.map_some, if_neg (by omega)]
theorem updL_sat (keep : List Bool) : Sat keep (updL keep (lastI keep keep.length) keep.length) := by
  refine ⟨updL_len _ _ _, fun k hk => ?_⟩
  have hg := updL_get keep (lastI keep keep.length) keep.length k
  rw [List.getElem?_eq_getElem hk, Option.map_some, if_pos hk] at hg
  have h0 : keptL keep k = keep[k] := by unfold keptL; rw [List.getD_eq_getElem?_getD, List.getElem?_eq_getElem hk]; rfl
  rw [kept_iff, hg, Option.some.injEq, Bool.or_eq_true, decide_eq_true_eq, h0]
  constructor
  · rintro (h | h)
    · exact Or.inl h
    · right
      unfold lastI at h
      cases ht : topK keep keep.length with
      | none => rw [ht] at h; simp only at h; omega
      | some p =>
        rw [ht] at h
        simp only at h
        exact ⟨p, ((topK_spec keep _ p).1 ht).2.1, by omega⟩
  · rintro (h | ⟨p, h1, h2⟩)
    · exact Or.inl h
    · right
      have hp := kept_lt h1
      unfold lastI
      cases ht : topK keep keep.length with
      | none => have := (topK_none keep _).1 ht p hp; rw [h1] at this; cases this
      | some q =>
        simp only
        have hs := (topK_spec keep _ q).1 ht
        rcases Nat.lt_or_ge q p with hqp | hqp
        · have := hs.2.2 p hqp hp; rw [h1] at this; cases this
        · omega
/-- Does a write of a sector live on? -/
def livesB (l : List Int) (keep : List Bool) (i : Int) (k : Nat) : Bool := (List.range k).any fun j => decide (l[j]? = some i) && keptL keep j
theorem livesB_zero (l : List Int) (keep : List Bool) (i : Int) : livesB l keep i 0 = false := rfl
theorem livesB_step {l : List Int} {keep : List Bool} {i : Int} {k : Nat} {x : Int} (hx : l[k]? = some x) : livesB l keep i (k + 1) = (livesB l keep i k || (decide (x = i) && keptL keep k)) := by
  unfold livesB
  rw [List.range_succ, List.any_append, List.any_cons, List.any_nil, Bool.or_false, hx]
  simp
theorem lives_has {d : Dk} (hd : DkOk d) {keep keep' : List Bool} (hs : Sat keep keep') (hl : keep.length ≤ d.qu.length) {i : Nat} (hi : i < d.has.length) (h : livesB (d.qu.map (·.1)) keep' i d.qu.length = false) : (viewD d keep').getD i zeroB = d.has.getD i zeroB := by
  rw [List.getD_eq_getElem?_getD, List.getD_eq_getElem?_getD, view_at hd keep' hi]
  intro j p hp hlv hpi
  have hj := (List.getElem?_eq_some_iff.1 hp).1
  rw [sat_own hs hj hl] at hlv
  unfold livesB at h
  rw [List.any_eq_false] at h
  have := h j (List.mem_range.2 hj)
  rw [List.getElem?_map, hp] at this
  simp [hpi, hlv] at this
theorem none_has {d : Dk} (hd : DkOk d) (keep : List Bool) {i : Nat} (hi : i < d.has.length) (h : ¬ (i : Int) ∈ d.qu.map (·.1)) : (viewD d keep).getD i zeroB = d.has.getD i zeroB := by
  rw [List.getD_eq_getElem?_getD, List.getD_eq_getElem?_getD, view_at hd keep hi]
  intro j p hp hlv hpi
  exact h (List.mem_map.2 ⟨p, List.mem_of_getElem? hp, hpi⟩)
theorem nine_eq {V H : List Bk} {i : Nat} (h : V.getD i zeroB = H.getD i zeroB) : eqF (fun j => nineF V (i * 64 + j)) (fun j => nineF H (i * 64 + j)) 64 = true := by
  rw [eqF_true]
  intro j hj
  unfold nineF
  rw [show (i * 64 + j) / 64 = i by omega, h]
end Go.Proofs.Ytdohohafdplkiaa
