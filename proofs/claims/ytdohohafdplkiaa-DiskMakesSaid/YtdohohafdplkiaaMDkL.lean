import Derived.Test.YtdohohafdplkiaaMDkA

/- Disks: the plain law of views, of what a crash leaves. -/
set_option linter.unusedSimpArgs false
set_option linter.unusedVariables false
namespace Go.Proofs.Ytdohohafdplkiaa
theorem kept_lt {keep : List Bool} {k : Nat} (h : keptL keep k = true) : k < keep.length := by
  unfold keptL at h
  rcases Nat.lt_or_ge k keep.length with h1 | h1
  · exact h1
  · rw [List.getD_eq_getElem?_getD, List.getElem?_eq_none h1] at h; cases h
theorem kept_iff {keep : List Bool} {k : Nat} : keptL keep k = true ↔ keep[k]? = some true := by
  unfold keptL
  rw [List.getD_eq_getElem?_getD]
  cases h : keep[k]? with
  | none => simp
  | some b => simp
/-- What lives on because of one further behind is as if it had been kept. -/
structure Sat (keep keep' : List Bool) : Prop where
  len : keep'.length = keep.length
  get : ∀ k, k < keep.length → (keptL keep' k = true ↔ (keptL keep k = true ∨ ∃ p, keptL keep p = true ∧ k + 4 ≤ p))
theorem sat_lives {keep keep' : List Bool} (h : Sat keep keep') {n k : Nat} (hk : k < n) (hl : keep.length ≤ n) : livesK keep n k = livesK keep' n k := by
  rw [Bool.eq_iff_iff, lives_iff keep n k hk, lives_iff keep' n k hk]
  constructor
  · rintro ⟨p, h1, h2, h3⟩
    exact ⟨p, h1, (h.get p (kept_lt h2)).2 (Or.inl h2), h3⟩
  · rintro ⟨p, h1, h2, h3⟩
    have hp := kept_lt h2
    rw [h.len] at hp
    rcases (h.get p hp).1 h2 with h4 | ⟨q, h4, h5⟩
    · exact ⟨p, h1, h4, h3⟩
    · have hq := kept_lt h4
      exact ⟨q, by omega, h4, Or.inr (by omega)⟩
theorem sat_own {keep keep' : List Bool} (h : Sat keep keep') {n k : Nat} (hk : k < n) (hl : keep.length ≤ n) : livesK keep' n k = keptL keep' k := by
  rw [Bool.eq_iff_iff, lives_iff keep' n k hk]
  constructor
  · rintro ⟨p, h1, h2, rfl | h3⟩
    · exact h2
    · have hp := kept_lt h2
      rw [h.len] at hp
      rw [h.get k (by omega)]
      rcases (h.get p hp).1 h2 with h4 | ⟨q, h4, h5⟩
      · exact Or.inr ⟨p, h4, h3⟩
      · exact Or.inr ⟨q, h4, by omega⟩
  · intro h1; exact ⟨k, hk, h1, Or.inl rfl⟩
/-- All sectors behind a crash. -/
def viewD (d : Dk) (keep : List Bool) : List Bk := (crashD d keep).has
theorem view_len (d : Dk) (keep : List Bool) : (viewD d keep).length = d.has.length := doQ_len _ _ _ _
theorem view_sat {d : Dk} {keep keep' : List Bool} (h : Sat keep keep') (hl : keep.length ≤ d.qu.length) : viewD d keep = viewD d keep' :=
  doQ_congr _ _ _ fun j hj => by rw [Nat.zero_add]; exact sat_lives h hj hl
theorem view_nil (d : Dk) : viewD d [] = d.has := by
  apply List.ext_getElem?
  intro i
  rcases Nat.lt_or_ge i d.has.length with hi | hi
  · show (doQ d.has 0 d.qu _)[i]? = _
    rw [doQ_get i _ d.qu d.has 0 _ (List.getElem?_eq_getElem hi), pick_none]
    · exact (List.getElem?_eq_getElem hi).symm
    · intro j p hp hl
      rw [Nat.zero_add] at hl
      obtain ⟨q, _, h2, _⟩ := (lives_iff [] _ j (List.getElem?_eq_some_iff.1 hp).1).1 hl
      simp [keptL] at h2
  · rw [List.getElem?_eq_none (by rw [view_len]; exact hi), List.getElem?_eq_none hi]
theorem view_at {d : Dk} (hd : DkOk d) (keep : List Bool) {i : Nat} (hi : i < d.has.length) (h : ∀ (j : Nat) (p : Pt), d.qu[j]? = some p → livesK keep d.qu.length j = true → p.1 ≠ (i : Int)) : (viewD d keep)[i]? = d.has[i]? := by
  show (doQ d.has 0 d.qu _)[i]? = _
  rw [doQ_get i _ d.qu d.has 0 _ (List.getElem?_eq_getElem hi), pick_none]
  · exact (List.getElem?_eq_getElem hi).symm
  · intro j p hp hl
    rw [Nat.zero_add] at hl
    have h1 := h j p hp hl
    have h2 := hd.qr p (List.mem_of_getElem? hp)
    omega
/-- All kept: what is read ahead of the crash. -/
theorem view_all {d : Dk} (hd : DkOk d) {keep : List Bool} (hk : ∀ j, j < d.qu.length → keptL keep j = true) {i : Nat} (hi : i < d.has.length) : (viewD d keep)[i]? = some (readsD d i) := by
  show (doQ d.has 0 d.qu _)[i]? = _
  rw [doQ_congr (g := fun _ => true) _ _ _ fun j hj => by rw [Nat.zero_add]; exact (lives_iff _ _ _ hj).2 ⟨j, hj, hk j hj, Or.inl rfl⟩]
  rw [doQ_get i _ d.qu d.has 0 _ (List.getElem?_eq_getElem hi), pick_all _ _ _ _ fun p hp => (hd.qr p hp).1]
  unfold readsD
  rw [Int.toNat_natCast, List.getD_eq_getElem?_getD, List.getElem?_eq_getElem hi]
  rfl
theorem sync_has {d : Dk} (h : (syncD d).2 = 0) {keep : List Bool} (hk : ∀ j, j < d.qu.length → keptL keep j = true) : (syncD d).1.has = viewD d keep ∧ (syncD d).1.qu = [] := by
  unfold syncD at h ⊢
  split
  · refine ⟨?_, rfl⟩
    show doQ d.has 0 d.qu _ = doQ d.has 0 d.qu _
    exact (doQ_congr _ _ _ fun j hj => by rw [Nat.zero_add]; exact (lives_iff _ _ _ hj).2 ⟨j, hj, hk j hj, Or.inl rfl⟩).symm
  · rename_i h0
    rw [if_neg h0] at h
    exact absurd h h0
theorem view_empty {d : Dk} (h : d.qu = []) (keep : List Bool) : viewD d keep = d.has := by
  show doQ d.has 0 d.qu _ = _
  rw [h]; rfl
/-- A disk without a fault, read. -/
structure Calm (d : Dk) : Prop where
  dark : d.dark = false
  dm : d.dm = -1
  ar : d.ar = -1
theorem crash_calm (d : Dk) (keep : List Bool) : Calm (crashD d keep) := ⟨rfl, rfl, rfl⟩
theorem calm_req {d : Dk} (h : Calm d) {i : Int} (hi : 0 ≤ i ∧ i < d.has.length) (ch : Bool) : reqD d i ch = (d, 0) := by
  obtain ⟨h1, h2, h3⟩ := h
  unfold reqD
  rw [if_neg (by simp [h1]), if_neg (by simpa using hi), if_neg (by simp [h3]), if_neg (by simp [h2])]
  cases d
  simp only at h1 h2 h3
  subst h1 h2 h3
  simp [down]
theorem calm_read {d : Dk} (h : Calm d) {i : Int} (hi : 0 ≤ i ∧ i < d.has.length) : readD d i = (incD d, readsD d i, 0) := by
  unfold readD
  rw [calm_req h hi]
  simp
theorem inc_calm {d : Dk} (h : Calm d) : Calm (incD d) := ⟨h.dark, h.dm, h.ar⟩
theorem reads_empty {d : Dk} (h : d.qu = []) (i : Int) : readsD d i = d.has.getD i.toNat zeroB := by
  unfold readsD lastD; rw [h]; rfl
end Go.Proofs.Ytdohohafdplkiaa
