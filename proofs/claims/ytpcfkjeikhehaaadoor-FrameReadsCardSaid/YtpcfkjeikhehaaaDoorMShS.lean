import Derived.Test.YtpcfkjeikhehaaaDoorMWords

/- Short numbers: the plain law. -/
set_option linter.unusedSimpArgs false
set_option linter.unusedVariables false
namespace Go.Proofs.YtpcfkjeikhehaaaDoor
/-- The bytes of what stands ahead of the last seven bits, all but the last byte. -/
def upL (x : Nat) : List UInt8 := if h : x = 0 then [] else upL (x / 128) ++ [UInt8.ofNat (x % 128 + 128)]
termination_by x
decreasing_by omega
def shortL (x : Nat) : List UInt8 := upL (x / 128) ++ [UInt8.ofNat (x % 128)]
theorem upL_zero : upL 0 = [] := by unfold upL; rfl
theorem upL_pos {x : Nat} (h : x ≠ 0) : upL x = upL (x / 128) ++ [UInt8.ofNat (x % 128 + 128)] := by
  conv => lhs; unfold upL
  rw [dif_neg h]
theorem shortL_small {x : Nat} (h : x < 128) : shortL x = [UInt8.ofNat x] := by
  unfold shortL
  rw [Nat.div_eq_of_lt h, upL_zero, Nat.mod_eq_of_lt h]; rfl
theorem shortL_ne (x : Nat) : shortL x ≠ [] := by unfold shortL; simp
theorem upL_len (k : Nat) : ∀ x, x < 128 ^ k → (upL x).length ≤ k := by
  induction k with
  | zero => intro x h; rw [show x = 0 by simpa using h, upL_zero]; simp
  | succ k ih =>
    intro x h
    by_cases hx : x = 0
    · rw [hx, upL_zero]; simp
    · rw [upL_pos hx, List.length_append]
      have := ih (x / 128) (by rw [Nat.pow_succ] at h; omega)
      simp only [List.length_singleton]; omega
theorem shortL_len {x : Nat} (h : x < 18446744073709551616) : (shortL x).length ≤ 10 := by
  unfold shortL
  rw [List.length_append]
  have := upL_len 9 (x / 128) (by omega)
  simp only [List.length_singleton]; omega
/-- What bytes tell, seven bits each. -/
def valL (l : List UInt8) : Nat := l.foldl (fun x c => 128 * x + c.toNat % 128) 0
theorem valL_snoc (l : List UInt8) (c : UInt8) : valL (l ++ [c]) = 128 * valL l + c.toNat % 128 := by unfold valL; rw [List.foldl_append]; rfl
theorem toNat_lo {x : Nat} (h : x < 128) : (UInt8.ofNat x).toNat = x := UInt8.toNat_ofNat_of_lt' (by show _ < 256; omega)
theorem toNat_hi (x : Nat) : (UInt8.ofNat (x % 128 + 128)).toNat = x % 128 + 128 := UInt8.toNat_ofNat_of_lt' (by show _ < 256; omega)
theorem valL_up (x : Nat) : valL (upL x) = x := by
  induction x using Nat.strongRecOn with
  | ind x ih =>
    by_cases hx : x = 0
    · rw [hx, upL_zero]; rfl
    · rw [upL_pos hx, valL_snoc, ih (x / 128) (by omega), toNat_hi]; omega
theorem valL_short (x : Nat) : valL (shortL x) = x := by
  unfold shortL
  rw [valL_snoc, valL_up, toNat_lo (by omega)]; omega
/-- A row of bytes that all have their eighth bit, and does not begin with one that tells nothing, is what it tells. -/
def headOk (l : List UInt8) : Prop := l.head? ≠ some 128
theorem headOk_up (x : Nat) : headOk (upL x) := by
  induction x using Nat.strongRecOn with
  | ind x ih =>
    by_cases hx : x = 0
    · rw [hx, upL_zero]; simp [headOk]
    · rw [upL_pos hx]
      unfold headOk
      by_cases h2 : x / 128 = 0
      · rw [h2, upL_zero]
        simp only [List.nil_append, List.head?_cons, ne_eq, Option.some.injEq]
        intro h
        have := congrArg UInt8.toNat h
        rw [toNat_hi] at this
        have h3 : (128 : UInt8).toNat = 128 := rfl
        omega
      · have := ih (x / 128) (by omega)
        unfold headOk at this
        rw [List.head?_append]
        cases hh : (upL (x / 128)).head? with
        | none => rw [List.head?_eq_none_iff] at hh; rw [upL_pos h2] at hh; simp at hh
        | some c => rw [hh] at this; simpa using this
theorem snoc_ind {P : List UInt8 → Prop} (h0 : P []) (h1 : ∀ l c, P l → P (l ++ [c])) (l : List UInt8) : P l := by
  have h : ∀ l : List UInt8, P l.reverse := by
    intro l
    induction l with
    | nil => exact h0
    | cons a l ih => rw [List.reverse_cons]; exact h1 _ _ ih
  have := h l.reverse
  rwa [List.reverse_reverse] at this
theorem up_of_val (l : List UInt8) : (∀ c ∈ l, 128 ≤ c.toNat) → headOk l → upL (valL l) = l := by
  induction l using snoc_ind with
  | h0 => intro _ _; show upL 0 = []; exact upL_zero
  | h1 l c ih =>
    intro h1 h2
    have hc := h1 c (by simp)
    have hc2 : c.toNat < 256 := c.toNat_lt
    have hl : headOk l := by
      unfold headOk at h2 ⊢
      cases l with
      | nil => simp
      | cons a l => simpa using h2
    have e := ih (fun c hc => h1 c (by simp [hc])) hl
    rw [valL_snoc]
    have hm : (128 * valL l + c.toNat % 128) / 128 = valL l := by omega
    have hr : (128 * valL l + c.toNat % 128) % 128 + 128 = c.toNat := by omega
    have hne : 128 * valL l + c.toNat % 128 ≠ 0 := by
      intro h0
      have hv : valL l = 0 := by omega
      have hc3 : c.toNat = 128 := by omega
      rw [hv, upL_zero] at e
      subst e
      unfold headOk at h2
      apply h2
      simp only [List.nil_append, List.head?_cons, Option.some.injEq]
      apply UInt8.toNat_inj.1
      rw [hc3]; rfl
    rw [upL_pos hne, hm, e, hr, UInt8.ofNat_toNat]
/-- The row of bytes is the short number's, or it begins with a byte that tells nothing. -/
theorem short_of_val (l : List UInt8) (c : UInt8) (h1 : ∀ c ∈ l, 128 ≤ c.toNat) (h2 : headOk l) (hc : c.toNat < 128) : shortL (valL (l ++ [c])) = l ++ [c] := by
  unfold shortL
  rw [valL_snoc]
  have hm : (128 * valL l + c.toNat % 128) / 128 = valL l := by omega
  have hr : (128 * valL l + c.toNat % 128) % 128 = c.toNat := by omega
  rw [hm, hr, up_of_val l h1 h2, UInt8.ofNat_toNat]
theorem up_hi {x : Nat} : ∀ c ∈ upL x, 128 ≤ c.toNat := by
  induction x using Nat.strongRecOn with
  | ind x ih =>
    by_cases hx : x = 0
    · rw [hx, upL_zero]; intro c hc; simp at hc
    · rw [upL_pos hx]
      intro c hc
      simp only [List.mem_append, List.mem_singleton] at hc
      rcases hc with hc | rfl
      · exact ih _ (by omega) c hc
      · rw [toNat_hi]; omega
/-! ### The short number that bytes begin with -/
def longGo : List UInt8 → Nat → Nat → Option (Nat × Nat)
  | [], _, _ => none
  | c :: l, x, i => if 144115188075855872 ≤ x ∨ (i = 0 ∧ c = 128) then none else if c.toNat < 128 then some (128 * x + c.toNat % 128, i + 1) else longGo l (128 * x + c.toNat % 128) (i + 1)
theorem longGo_cons (c : UInt8) (l : List UInt8) (x i : Nat) : longGo (c :: l) x i = if 144115188075855872 ≤ x ∨ (i = 0 ∧ c = 128) then none else if c.toNat < 128 then some (128 * x + c.toNat % 128, i + 1) else longGo l (128 * x + c.toNat % 128) (i + 1) := by rw [longGo]
def longL (l : List UInt8) : Option (Nat × Nat) := longGo l 0 0
theorem headOk_snoc {q : List UInt8} {c : UInt8} (h : headOk (q ++ [c])) : headOk q := by
  unfold headOk at h ⊢
  cases q with
  | nil => simp
  | cons a q => simpa using h
theorem valL_last {q : List UInt8} {c : UInt8} : valL (q ++ [c]).dropLast = valL q := by rw [List.dropLast_concat]
theorem valL_le_snoc (q : List UInt8) (c : UInt8) : valL q ≤ valL (q ++ [c]) := by rw [valL_snoc]; omega
theorem valL_drop_le (q : List UInt8) : valL q.dropLast ≤ valL q := by
  rcases List.eq_nil_or_concat q with rfl | ⟨l, c, rfl⟩
  · simp
  · rw [List.concat_eq_append, valL_last]; exact valL_le_snoc l c
theorem long_go (p : List UInt8) : ∀ r, (∀ c ∈ p, 128 ≤ c.toNat) → headOk p → valL p.dropLast < 144115188075855872 → longL (p ++ r) = longGo r (valL p) p.length := by
  induction p using snoc_ind with
  | h0 => intro r _ _ _; rfl
  | h1 q c ih =>
    intro r h1 h2 h3
    have hc := h1 c (by simp)
    rw [valL_last] at h3
    rw [List.append_assoc, ih ([c] ++ r) (fun c hc => h1 c (by simp [hc])) (headOk_snoc h2) (Nat.lt_of_le_of_lt (valL_drop_le q) h3)]
    show longGo (c :: r) _ _ = _
    rw [longGo_cons]
    rw [if_neg, if_neg (by omega), valL_snoc, List.length_append]
    · rfl
    · rintro (h | ⟨h, rfl⟩)
      · omega
      · have := List.eq_nil_of_length_eq_zero h
        subst this
        exact h2 rfl
theorem long_head {p : List UInt8} (r : List UInt8) (h : ¬ headOk p) : longL (p ++ r) = none := by
  cases p with
  | nil => exact absurd (by simp [headOk]) h
  | cons a p =>
    have : a = 128 := by
      unfold headOk at h
      simpa using h
    subst this
    show longGo (128 :: (p ++ r)) 0 0 = none
    rw [longGo_cons]
    rw [if_pos (Or.inr ⟨rfl, rfl⟩)]
theorem long_big (p : List UInt8) : ∀ r, (∀ c ∈ p, 128 ≤ c.toNat) → headOk p → 144115188075855872 ≤ valL p.dropLast → longL (p ++ r) = none := by
  induction p using snoc_ind with
  | h0 => intro r _ _ h; simp [valL] at h
  | h1 q c ih =>
    intro r h1 h2 h3
    rw [valL_last] at h3
    rw [List.append_assoc]
    by_cases hq : 144115188075855872 ≤ valL q.dropLast
    · exact ih _ (fun c hc => h1 c (by simp [hc])) (headOk_snoc h2) hq
    · rw [long_go q _ (fun c hc => h1 c (by simp [hc])) (headOk_snoc h2) (by omega)]
      show longGo (c :: r) _ _ = _
      rw [longGo_cons]
      rw [if_pos (Or.inl h3)]
/-- All of its bytes go on: none. -/
theorem long_hi (p : List UInt8) (h1 : ∀ c ∈ p, 128 ≤ c.toNat) : longL p = none := by
  have e : longL p = longL (p ++ []) := by rw [List.append_nil]
  rw [e]
  by_cases h2 : headOk p
  · by_cases h3 : valL p.dropLast < 144115188075855872
    · rw [long_go p [] h1 h2 h3]; rfl
    · exact long_big p [] h1 h2 (by omega)
  · exact long_head [] h2
theorem long_end (p : List UInt8) (c : UInt8) (r : List UInt8) (h1 : ∀ c ∈ p, 128 ≤ c.toNat) (hc : c.toNat < 128) :
    longL (p ++ c :: r) = if p.head? ≠ some 128 ∧ valL p < 144115188075855872 then some (valL (p ++ [c]), p.length + 1) else none := by
  by_cases h2 : headOk p
  · by_cases h3 : valL p.dropLast < 144115188075855872
    · rw [long_go p _ h1 h2 h3]
      rw [longGo_cons]
      by_cases h4 : valL p < 144115188075855872
      · rw [if_neg, if_pos hc, if_pos ⟨h2, h4⟩, valL_snoc]
        rintro (h | ⟨_, rfl⟩)
        · omega
        · exact absurd hc (by decide)
      · rw [if_pos (Or.inl (by omega)), if_neg (fun h => h4 h.2)]
    · rw [long_big p _ h1 h2 (by omega), if_neg]
      intro h
      have := valL_drop_le p
      omega
  · rw [long_head _ h2, if_neg (fun h => h2 h.1)]
theorem valL_ge (p : List UInt8) : (∀ c ∈ p, 128 ≤ c.toNat) → headOk p → p ≠ [] → 128 ^ (p.length - 1) ≤ valL p := by
  induction p using snoc_ind with
  | h0 => intro _ _ h; exact absurd rfl h
  | h1 q c ih =>
    intro h1 h2 _
    rw [valL_snoc, List.length_append, List.length_singleton, Nat.add_sub_cancel]
    by_cases hq : q = []
    · subst hq
      have hc := h1 c (by simp)
      have hc2 : c.toNat < 256 := c.toNat_lt
      have : c.toNat ≠ 128 := by
        intro h
        apply h2
        simp only [List.nil_append, List.head?_cons, Option.some.injEq]
        apply UInt8.toNat_inj.1
        rw [h]; rfl
      simp only [List.length_nil, Nat.pow_zero]
      omega
    · have := ih (fun c hc => h1 c (by simp [hc])) (headOk_snoc h2) hq
      have hl : 0 < q.length := List.length_pos_iff.2 hq
      have e : 128 ^ q.length = 128 ^ (q.length - 1) * 128 := by rw [← Nat.pow_succ]; congr 1; omega
      omega
/-- Ten bytes that go on: none. -/
theorem long_far (p : List UInt8) (r : List UInt8) (h1 : ∀ c ∈ p, 128 ≤ c.toNat) (h10 : 10 ≤ p.length) (hr : r ≠ []) : longL (p ++ r) = none := by
  cases r with
  | nil => exact absurd rfl hr
  | cons c r =>
    by_cases h2 : headOk p
    · have hv := valL_ge p h1 h2 (by intro h; rw [h] at h10; simp at h10)
      have h9 : 128 ^ 9 ≤ 128 ^ (p.length - 1) := Nat.pow_le_pow_right (by decide) (by omega)
      have e9 : (128 : Nat) ^ 9 = 9223372036854775808 := by decide
      by_cases h3 : valL p.dropLast < 144115188075855872
      · rw [long_go p _ h1 h2 h3]
        rw [longGo_cons]
        rw [if_pos (Or.inl (by omega))]
      · exact long_big p _ h1 h2 (by omega)
    · exact long_head _ h2
/-- By the document. -/
theorem long_doc (p : List UInt8) (c : UInt8) (r : List UInt8) (h1 : ∀ c ∈ p, 128 ≤ c.toNat) (hc : c.toNat < 128) :
    longL (p ++ c :: r) = if shortL (valL (p ++ [c]) % 18446744073709551616) = p ++ [c] then some (valL (p ++ [c]) % 18446744073709551616, p.length + 1) else none := by
  rw [long_end p c r h1 hc]
  by_cases h : p.head? ≠ some 128 ∧ valL p < 144115188075855872
  · have hv : valL (p ++ [c]) < 18446744073709551616 := by rw [valL_snoc]; omega
    rw [if_pos h, Nat.mod_eq_of_lt hv, if_pos (short_of_val p c h1 h.1 hc)]
  · rw [if_neg h, if_neg]
    intro hs
    apply h
    have hv := congrArg valL hs
    rw [valL_short] at hv
    have hlt : valL (p ++ [c]) < 18446744073709551616 := by rw [← hv]; exact Nat.mod_lt _ (by decide)
    unfold shortL at hs
    have hp := (List.append_inj' hs rfl).1
    refine ⟨?_, by rw [valL_snoc] at hlt; omega⟩
    rw [← hp]
    exact headOk_up _
/-- Of a short number, with whatever behind it. -/
theorem long_short (x : Nat) (r : List UInt8) (hx : x < 18446744073709551616) : longL (shortL x ++ r) = some (x, (shortL x).length) := by
  have e : shortL x ++ r = upL (x / 128) ++ UInt8.ofNat (x % 128) :: r := by unfold shortL; rw [List.append_assoc]; rfl
  have hc : (UInt8.ofNat (x % 128)).toNat < 128 := by rw [toNat_lo (by omega)]; omega
  rw [e, long_end _ _ _ up_hi hc, if_pos ⟨headOk_up _, by rw [valL_up]; omega⟩]
  have e2 : upL (x / 128) ++ [UInt8.ofNat (x % 128)] = shortL x := rfl
  rw [e2, valL_short]
  unfold shortL
  rw [List.length_append]; rfl
theorem long_less (x : Nat) (i : Nat) (hi : i < (shortL x).length) : longL ((shortL x).take i) = none := by
  refine long_hi _ fun c hc => ?_
  unfold shortL at hi hc
  rw [List.length_append, List.length_singleton] at hi
  rw [List.take_append_of_le_length (by omega)] at hc
  exact up_hi c (List.mem_of_mem_take hc)
theorem long_more (l : List UInt8) : longL (128 :: l) = none := long_head (p := [128]) l (by simp [headOk])
theorem up_mono : ∀ x y : Nat, x ≤ y → (upL x).length ≤ (upL y).length := by
  intro x
  induction x using Nat.strongRecOn with
  | ind x ih =>
    intro y h
    by_cases hx : x = 0
    · rw [hx, upL_zero]; simp
    · rw [upL_pos hx, upL_pos (show y ≠ 0 by omega), List.length_append, List.length_append]
      have := ih (x / 128) (by omega) (y / 128) (Nat.div_le_div_right h)
      simp only [List.length_singleton]; omega
theorem short_mono {x y : Nat} (h : x ≤ y) : (shortL x).length ≤ (shortL y).length := by
  unfold shortL
  rw [List.length_append, List.length_append]
  have := up_mono (x / 128) (y / 128) (Nat.div_le_div_right h)
  simp only [List.length_singleton]; omega
end Go.Proofs.YtpcfkjeikhehaaaDoor

/- Messages: the plain law. -/
set_option linter.unusedSimpArgs false
set_option linter.unusedVariables false
namespace Go.Proofs.YtpcfkjeikhehaaaDoor
/-- An entry: its term, its kind, its data. -/
abbrev En := UInt64 × Int × List UInt8
structure Ms where
  kd : Int
  fr : Int
  to : Int
  tm : UInt64
  pi : UInt64
  pt : UInt64
  es : List En
  cm : UInt64
  ok : Bool
  mb : List Int
  da : List UInt8
theorem Ms.ext' {x y : Ms} (h1 : x.kd = y.kd) (h2 : x.fr = y.fr) (h3 : x.to = y.to) (h4 : x.tm = y.tm) (h5 : x.pi = y.pi) (h6 : x.pt = y.pt) (h7 : x.es = y.es) (h8 : x.cm = y.cm) (h9 : x.ok = y.ok) (h10 : x.mb = y.mb) (h11 : x.da = y.da) : x = y := by
  cases x; cases y; simp_all
def sameM (x y : Ms) : Bool := decide (x.kd = y.kd) && decide (x.fr = y.fr) && decide (x.to = y.to) && decide (x.tm = y.tm) && (decide (x.pi = y.pi) && decide (x.pt = y.pt)) && decide (x.cm = y.cm) && decide (x.ok = y.ok) && decide (x.mb = y.mb) && decide (x.es = y.es) && decide (x.da = y.da)
theorem sameM_iff {x y : Ms} : sameM x y = true ↔ x = y := by
  constructor
  · intro h
    simp only [sameM, Bool.and_eq_true, decide_eq_true_eq] at h
    obtain ⟨⟨⟨⟨⟨⟨⟨⟨⟨h1, h2⟩, h3⟩, h4⟩, h5, h6⟩, h7⟩, h8⟩, h9⟩, h10⟩, h11⟩ := h
    exact Ms.ext' h1 h2 h3 h4 h5 h6 h10 h7 h8 h9 h11
  · rintro rfl; simp [sameM]
theorem sameM_self (x : Ms) : sameM x x = true := sameM_iff.2 rfl
/-- Which fields count. -/
def hasO (k : Int) : Bool := k == 2 || k == 4
def hasP (k : Int) : Bool := k == 1 || k == 3 || k == 4 || k == 5
def hasC (k : Int) : Bool := k == 3
def hasE (k : Int) : Bool := k == 3
def hasM (k : Int) : Bool := k == 5
def hasD (k : Int) : Bool := k == 5
def wellE (e : En) : Bool := (e.2.1 == 2 || e.2.1 == 3 || (e.2.1 == 1 && e.2.2.length == 0)) && decide (e.1 ≠ 0) && decide (e.2.2.length ≤ 1024)
def standE : List En → UInt64 → Bool
  | [], _ => true
  | e :: l, t => wellE e && decide (t.toNat ≤ e.1.toNat) && standE l e.1
def lastT (t : UInt64) (l : List En) : UInt64 := match l.getLast? with | none => t | some e => e.1
def zeroM (m : Ms) : Bool := (hasE m.kd || m.es.length == 0) && (hasM m.kd || m.mb.length == 0) && (hasD m.kd || m.da.length == 0) && (hasO m.kd || !m.ok) && (hasP m.kd || (decide (m.pi = 0) && decide (m.pt = 0))) && (hasC m.kd || decide (m.cm = 0))
def rightM (m : Ms) : Bool :=
  decide (1 ≤ m.kd) && decide (m.kd ≤ 5) && zeroM m && decide (1 ≤ m.tm.toNat) && decide (m.tm.toNat ≤ 4611686018427387904) && decide (m.fr ≠ m.to) && decide (1 ≤ m.fr) && decide (m.fr ≤ 5) && decide (1 ≤ m.to) && decide (m.to ≤ 5) &&
  (decide (m.pi = 0) == decide (m.pt = 0)) && !(m.kd == 5 && decide (m.pi = 0)) && decide (m.pi.toNat + m.es.length ≤ 18446744073709551614) && decide (m.es.length ≤ 8) && decide (m.mb.length ≤ 5) && decide (m.da.length ≤ 65536) &&
  m.mb.all (fun n => decide (1 ≤ n) && decide (n ≤ 255)) && standE m.es m.pt && decide ((lastT m.pt m.es).toNat ≤ m.tm.toNat)
def byteI (n : Int) : UInt8 := UInt8.ofNat (n % 256).toNat
def entL (last : UInt64) (e : En) : List UInt8 := shortL (e.1 - last).toNat ++ (byteI e.2.1 :: (shortL e.2.2.length ++ e.2.2))
def entsL : UInt64 → List En → List UInt8
  | _, [] => []
  | t, e :: l => entL t e ++ entsL e.1 l
def boolL (b : Bool) : UInt8 := if b then 1 else 0
def optL (c : Bool) (l : List UInt8) : List UInt8 := if c then l else []
def plainM (m : Ms) : List UInt8 :=
  [byteI m.kd, byteI (16 * m.fr + m.to)] ++ shortL m.tm.toNat ++ optL (hasO m.kd) [boolL m.ok] ++ optL (hasP m.kd) (shortL m.pi.toNat ++ shortL m.pt.toNat) ++ optL (hasC m.kd) (shortL m.cm.toNat) ++
    optL (hasE m.kd) (shortL m.es.length ++ entsL m.pt m.es) ++ optL (hasM m.kd) (shortL m.mb.length ++ m.mb.map byteI) ++ optL (hasD m.kd) (shortL m.da.length ++ m.da)
/-! ### One way back -/
theorem short_cancel {x y : Nat} {r s : List UInt8} (hx : x < 18446744073709551616) (hy : y < 18446744073709551616) (h : shortL x ++ r = shortL y ++ s) : x = y ∧ r = s := by
  have h1 := long_short x r hx
  have h2 := long_short y s hy
  rw [h, h2] at h1
  simp only [Option.some.injEq, Prod.mk.injEq] at h1
  obtain ⟨rfl, _⟩ := h1
  exact ⟨rfl, List.append_cancel_left h⟩
theorem byteI_inj {a b : Int} (ha : 0 ≤ a ∧ a ≤ 255) (hb : 0 ≤ b ∧ b ≤ 255) (h : byteI a = byteI b) : a = b := by
  unfold byteI at h
  have := congrArg UInt8.toNat h
  rw [UInt8.toNat_ofNat_of_lt' (by show _ < 256; omega), UInt8.toNat_ofNat_of_lt' (by show _ < 256; omega)] at this
  omega
theorem cons_two {a b c d : UInt8} {r s : List UInt8} (h : a :: b :: r = c :: d :: s) : a = c ∧ b = d ∧ r = s := by simpa using h
theorem wellE_kind {e : En} (h : wellE e = true) : 1 ≤ e.2.1 ∧ e.2.1 ≤ 3 := by
  simp only [wellE, Bool.and_eq_true, Bool.or_eq_true, beq_iff_eq, decide_eq_true_eq] at h
  rcases h.1.1 with (h | h) | h <;> omega
theorem wellE_len {e : En} (h : wellE e = true) : e.2.2.length ≤ 1024 := by
  simp only [wellE, Bool.and_eq_true, decide_eq_true_eq] at h
  exact h.2
theorem u64_toNat (x : UInt64) : x.toNat < 18446744073709551616 := x.toNat_lt
theorem ents_cancel : ∀ (l l' : List En) (t : UInt64) (r s : List UInt8), l.length = l'.length → standE l t = true → standE l' t = true → entsL t l ++ r = entsL t l' ++ s → l = l' ∧ r = s
  | [], [], t, r, s, _, _, _, h => ⟨rfl, h⟩
  | [], _ :: _, _, _, _, hl, _, _, _ => by simp at hl
  | _ :: _, [], _, _, _, hl, _, _, _ => by simp at hl
  | e :: l, e' :: l', t, r, s, hl, h1, h2, h => by
    simp only [standE, Bool.and_eq_true, decide_eq_true_eq] at h1 h2
    obtain ⟨⟨w1, g1⟩, k1⟩ := h1
    obtain ⟨⟨w2, g2⟩, k2⟩ := h2
    simp only [entsL, entL, List.append_assoc, List.cons_append] at h
    obtain ⟨q1, ha⟩ := short_cancel (u64_toNat _) (u64_toNat _) h
    clear h
    obtain ⟨q2, hb⟩ : byteI e.2.1 = byteI e'.2.1 ∧ shortL e.2.2.length ++ (e.2.2 ++ (entsL e.1 l ++ r)) = shortL e'.2.2.length ++ (e'.2.2 ++ (entsL e'.1 l' ++ s)) := by simpa using ha
    clear ha
    have := wellE_len w1
    have := wellE_len w2
    obtain ⟨q3, hc⟩ := short_cancel (by omega) (by omega) hb
    clear hb
    obtain ⟨q4, hd⟩ := List.append_inj hc q3
    clear hc
    have e1 : e.1 = e'.1 := by
      have : e.1 - t = e'.1 - t := UInt64.toNat_inj.1 q1
      have h5 := congrArg (· + t) this
      simpa using h5
    have e2 := byteI_inj ⟨by have := wellE_kind w1; omega, by have := wellE_kind w1; omega⟩ ⟨by have := wellE_kind w2; omega, by have := wellE_kind w2; omega⟩ q2
    obtain ⟨a, b, c⟩ := e
    obtain ⟨a', b', c'⟩ := e'
    simp only at e1 e2 q4 hd k1 k2
    subst e1 e2 q4
    obtain ⟨q5, q6⟩ := ents_cancel l l' a r s (by simpa using hl) k1 k2 hd
    exact ⟨by rw [q5], q6⟩
theorem map_byte_inj : ∀ (l l' : List Int), l.all (fun n => decide (1 ≤ n) && decide (n ≤ 255)) = true → l'.all (fun n => decide (1 ≤ n) && decide (n ≤ 255)) = true → l.map byteI = l'.map byteI → l = l'
  | [], [], _, _, _ => rfl
  | [], _ :: _, _, _, h => by simp at h
  | _ :: _, [], _, _, h => by simp at h
  | a :: l, b :: l', h1, h2, h => by
    simp only [List.all_cons, Bool.and_eq_true, decide_eq_true_eq, List.map_cons, List.cons.injEq] at h1 h2 h
    have := byteI_inj (by omega) (by omega) h.1
    subst this
    rw [map_byte_inj l l' h1.2 h2.2 h.2]
theorem rightM_spec {m : Ms} (h : rightM m = true) : (1 ≤ m.kd ∧ m.kd ≤ 5) ∧ zeroM m = true ∧ (1 ≤ m.fr ∧ m.fr ≤ 5 ∧ 1 ≤ m.to ∧ m.to ≤ 5) ∧ m.es.length ≤ 8 ∧ m.mb.length ≤ 5 ∧ m.da.length ≤ 65536 ∧ m.mb.all (fun n => decide (1 ≤ n) && decide (n ≤ 255)) = true ∧ standE m.es m.pt = true := by
  simp only [rightM, Bool.and_eq_true, decide_eq_true_eq] at h
  obtain ⟨⟨⟨⟨⟨⟨⟨⟨⟨⟨⟨⟨⟨⟨⟨⟨⟨⟨h1, h2⟩, h3⟩, h4⟩, h5⟩, h6⟩, h7⟩, h8⟩, h9⟩, h10⟩, h11⟩, h12⟩, h13⟩, h14⟩, h15⟩, h16⟩, h17⟩, h18⟩, h19⟩ := h
  exact ⟨⟨h1, h2⟩, h3, ⟨h7, h8, h9, h10⟩, h14, h15, h16, h17, h18⟩
theorem plain_inj {x y : Ms} (hx : rightM x = true) (hy : rightM y = true) (h : plainM x = plainM y) : x = y := by
  obtain ⟨⟨a1, a2⟩, zx, ⟨a3, a4, a5, a6⟩, a7, a8, a9, a10, a11⟩ := rightM_spec hx
  obtain ⟨⟨b1, b2⟩, zy, ⟨b3, b4, b5, b6⟩, b7, b8, b9, b10, b11⟩ := rightM_spec hy
  obtain ⟨k, f, t, tm, pi, pt, es, cm, ok, mb, da⟩ := x
  obtain ⟨k', f', t', tm', pi', pt', es', cm', ok', mb', da'⟩ := y
  simp only at a1 a2 a3 a4 a5 a6 a7 a8 a9 a10 a11 b1 b2 b3 b4 b5 b6 b7 b8 b9 b10 b11
  simp only [plainM, List.append_assoc, List.cons_append, List.nil_append] at h
  obtain ⟨e1, e2, haz⟩ := cons_two h
  clear h
  have e1 := byteI_inj (by omega) (by omega) e1
  have e2 := byteI_inj (by omega) (by omega) e2
  obtain ⟨e3, hbz⟩ := short_cancel (u64_toNat _) (u64_toNat _) haz
  clear haz
  have e3 := UInt64.toNat_inj.1 e3
  subst e1 e3
  have e4 : f = f' := by omega
  have e5 : t = t' := by omega
  subst e4 e5
  simp only [zeroM, Bool.and_eq_true, Bool.or_eq_true, beq_iff_eq, Bool.not_eq_true', decide_eq_true_eq] at zx zy
  obtain ⟨⟨⟨⟨⟨x1, x2⟩, x3⟩, x4⟩, x5⟩, x6⟩ := zx
  obtain ⟨⟨⟨⟨⟨y1, y2⟩, y3⟩, y4⟩, y5⟩, y6⟩ := zy
  have hk : k = 1 ∨ k = 2 ∨ k = 3 ∨ k = 4 ∨ k = 5 := by omega
  rcases hk with rfl | rfl | rfl | rfl | rfl
  · simp only [optL, hasO, hasP, hasC, hasE, hasM, hasD] at hbz x1 x2 x3 x4 x5 x6 y1 y2 y3 y4 y5 y6
    simp at hbz x1 x2 x3 x4 x5 x6 y1 y2 y3 y4 y5 y6
    obtain ⟨q1, hcz⟩ := short_cancel (u64_toNat _) (u64_toNat _) hbz
    clear hbz
    have hdz : shortL pt.toNat ++ [] = shortL pt'.toNat ++ [] := by simpa using hcz
    clear hcz
    obtain ⟨q2, hez⟩ := short_cancel (u64_toNat _) (u64_toNat _) hdz
    clear hdz
    have q1 := UInt64.toNat_inj.1 q1
    have q2 := UInt64.toNat_inj.1 q2
    simp_all
  · simp only [optL, hasO, hasP, hasC, hasE, hasM, hasD] at hbz x1 x2 x3 x4 x5 x6 y1 y2 y3 y4 y5 y6
    simp at hbz x1 x2 x3 x4 x5 x6 y1 y2 y3 y4 y5 y6
    have : ok = ok' := by cases ok <;> cases ok' <;> simp [boolL] at hbz ⊢
    simp_all
  · simp only [optL, hasO, hasP, hasC, hasE, hasM, hasD] at hbz x1 x2 x3 x4 x5 x6 y1 y2 y3 y4 y5 y6
    simp at hbz x1 x2 x3 x4 x5 x6 y1 y2 y3 y4 y5 y6
    obtain ⟨q1, hfz⟩ := short_cancel (u64_toNat _) (u64_toNat _) hbz
    clear hbz
    obtain ⟨q2, hgz⟩ := short_cancel (u64_toNat _) (u64_toNat _) hfz
    clear hfz
    obtain ⟨q3, hhz⟩ := short_cancel (u64_toNat _) (u64_toNat _) hgz
    clear hgz
    obtain ⟨q4, hiz⟩ := short_cancel (by omega) (by omega) hhz
    clear hhz
    have q1 := UInt64.toNat_inj.1 q1
    have q2 := UInt64.toNat_inj.1 q2
    have q3 := UInt64.toNat_inj.1 q3
    subst q1 q2 q3
    have hjz : entsL pt es ++ [] = entsL pt es' ++ [] := by simpa using hiz
    clear hiz
    obtain ⟨q5, _⟩ := ents_cancel _ _ _ _ _ q4 a11 b11 hjz
    simp_all
  · simp only [optL, hasO, hasP, hasC, hasE, hasM, hasD] at hbz x1 x2 x3 x4 x5 x6 y1 y2 y3 y4 y5 y6
    simp at hbz x1 x2 x3 x4 x5 x6 y1 y2 y3 y4 y5 y6
    obtain ⟨q0, hkz⟩ := hbz
    have : ok = ok' := by cases ok <;> cases ok' <;> simp [boolL] at q0 ⊢
    obtain ⟨q1, hlz⟩ := short_cancel (u64_toNat _) (u64_toNat _) hkz
    clear hkz
    have hmz : shortL pt.toNat ++ [] = shortL pt'.toNat ++ [] := by simpa using hlz
    clear hlz
    obtain ⟨q2, hnz⟩ := short_cancel (u64_toNat _) (u64_toNat _) hmz
    clear hmz
    have q1 := UInt64.toNat_inj.1 q1
    have q2 := UInt64.toNat_inj.1 q2
    simp_all
  · simp only [optL, hasO, hasP, hasC, hasE, hasM, hasD] at hbz x1 x2 x3 x4 x5 x6 y1 y2 y3 y4 y5 y6
    simp at hbz x1 x2 x3 x4 x5 x6 y1 y2 y3 y4 y5 y6
    obtain ⟨q1, hoz⟩ := short_cancel (u64_toNat _) (u64_toNat _) hbz
    clear hbz
    obtain ⟨q2, hpz⟩ := short_cancel (u64_toNat _) (u64_toNat _) hoz
    clear hoz
    obtain ⟨q4, hqz⟩ := short_cancel (by omega) (by omega) hpz
    clear hpz
    have q1 := UInt64.toNat_inj.1 q1
    have q2 := UInt64.toNat_inj.1 q2
    subst q1 q2
    obtain ⟨q5, hrz⟩ := List.append_inj hqz (by simpa using q4)
    clear hqz
    have q5 := map_byte_inj _ _ a10 b10 q5
    obtain ⟨q6, hsz⟩ := short_cancel (by omega) (by omega) hrz
    clear hrz
    simp_all
end Go.Proofs.YtpcfkjeikhehaaaDoor
