import Derived.Test.YtpcfkjeikhehaaaDoorMShS

/- Messages: the plain law. -/
set_option linter.unusedSimpArgs false
set_option linter.unusedVariables false
namespace Go.Proofs.YtpcfkjeikhehaaaDoor
/-- An entry: its term, its kind, its data. -/
abbrev En := UInt64 × Int × List UInt8
structure Ms where
  kd : Int
  fr : Int
  to : Int
  tm : UInt64
  pi : UInt64
  pt : UInt64
  es : List En
  cm : UInt64
  ok : Bool
  mb : List Int
  da : List UInt8
theorem Ms.ext' {x y : Ms} (h1 : x.kd = y.kd) (h2 : x.fr = y.fr) (h3 : x.to = y.to) (h4 : x.tm = y.tm) (h5 : x.pi = y.pi) (h6 : x.pt = y.pt) (h7 : x.es = y.es) (h8 : x.cm = y.cm) (h9 : x.ok = y.ok) (h10 : x.mb = y.mb) (h11 : x.da = y.da) : x = y := by
  cases x; cases y; simp_all
def sameM (x y : Ms) : Bool := decide (x.kd = y.kd) && decide (x.fr = y.fr) && decide (x.to = y.to) && decide (x.tm = y.tm) && (decide (x.pi = y.pi) && decide (x.pt = y.pt)) && decide (x.cm = y.cm) && decide (x.ok = y.ok) && decide (x.mb = y.mb) && decide (x.es = y.es) && decide (x.da = y.da)
theorem sameM_iff {x y : Ms} : sameM x y = true ↔ x = y := by
  constructor
  · intro h
    simp only [sameM, Bool.and_eq_true, decide_eq_true_eq] at h
    obtain ⟨⟨⟨⟨⟨⟨⟨⟨⟨h1, h2⟩, h3⟩, h4⟩, h5, h6⟩, h7⟩, h8⟩, h9⟩, h10⟩, h11⟩ := h
    exact Ms.ext' h1 h2 h3 h4 h5 h6 h10 h7 h8 h9 h11
  · rintro rfl; simp [sameM]
theorem sameM_self (x : Ms) : sameM x x = true := sameM_iff.2 rfl
/-- Which fields count. -/
def hasO (k : Int) : Bool := k == 2 || k == 4
def hasP (k : Int) : Bool := k == 1 || k == 3 || k == 4 || k == 5
def hasC (k : Int) : Bool := k == 3
def hasE (k : Int) : Bool := k == 3
def hasM (k : Int) : Bool := k == 5
def hasD (k : Int) : Bool := k == 5
def wellE (e : En) : Bool := (e.2.1 == 2 || e.2.1 == 3 || (e.2.1 == 1 && e.2.2.length == 0)) && decide (e.1 ≠ 0) && decide (e.2.2.length ≤ 1024)
def standE : List En → UInt64 → Bool
  | [], _ => true
  | e :: l, t => wellE e && decide (t.toNat ≤ e.1.toNat) && standE l e.1
def lastT (t : UInt64) (l : List En) : UInt64 := match l.getLast? with | none => t | some e => e.1
def zeroM (m : Ms) : Bool := (hasE m.kd || m.es.length == 0) && (hasM m.kd || m.mb.length == 0) && (hasD m.kd || m.da.length == 0) && (hasO m.kd || !m.ok) && (hasP m.kd || (decide (m.pi = 0) && decide (m.pt = 0))) && (hasC m.kd || decide (m.cm = 0))
def rightM (m : Ms) : Bool :=
  decide (1 ≤ m.kd) && decide (m.kd ≤ 5) && zeroM m && decide (1 ≤ m.tm.toNat) && decide (m.tm.toNat ≤ 4611686018427387904) && decide (m.fr ≠ m.to) && decide (1 ≤ m.fr) && decide (m.fr ≤ 5) && decide (1 ≤ m.to) && decide (m.to ≤ 5) &&
  (decide (m.pi = 0) == decide (m.pt = 0)) && !(m.kd == 5 && decide (m.pi = 0)) && decide (m.pi.toNat + m.es.length ≤ 18446744073709551614) && decide (m.es.length ≤ 8) && decide (m.mb.length ≤ 5) && decide (m.da.length ≤ 65536) &&
  m.mb.all (fun n => decide (1 ≤ n) && decide (n ≤ 255)) && standE m.es m.pt && decide ((lastT m.pt m.es).toNat ≤ m.tm.toNat)
def byteI (n : Int) : UInt8 := UInt8.ofNat (n % 256).toNat
def entL (last : UInt64) (e : En) : List UInt8 := shortL (e.1 - last).toNat ++ (byteI e.2.1 :: (shortL e.2.2.length ++ e.2.2))
def entsL : UInt64 → List En → List UInt8
  | _, [] => []
  | t, e :: l => entL t e ++ entsL e.1 l
def boolL (b : Bool) : UInt8 := if b then 1 else 0
def optL (c : Bool) (l : List UInt8) : List UInt8 := if c then l else []
def plainM (m : Ms) : List UInt8 :=
  [byteI m.kd, byteI (16 * m.fr + m.to)] ++ shortL m.tm.toNat ++ optL (hasO m.kd) [boolL m.ok] ++ optL (hasP m.kd) (shortL m.pi.toNat ++ shortL m.pt.toNat) ++ optL (hasC m.kd) (shortL m.cm.toNat) ++
    optL (hasE m.kd) (shortL m.es.length ++ entsL m.pt m.es) ++ optL (hasM m.kd) (shortL m.mb.length ++ m.mb.map byteI) ++ optL (hasD m.kd) (shortL m.da.length ++ m.da)
/-! ### One way back -/
theorem short_cancel {x y : Nat} {r s : List UInt8} (hx : x < 18446744073709551616) (hy : y < 18446744073709551616) (h : shortL x ++ r = shortL y ++ s) : x = y ∧ r = s := by
  have h1 := long_short x r hx
  have h2 := long_short y s hy
  rw [h, h2] at h1
  simp only [Option.some.injEq, Prod.mk.injEq] at h1
  obtain ⟨rfl, _⟩ := h1
  exact ⟨rfl, List.append_cancel_left h⟩
theorem byteI_inj {a b : Int} (ha : 0 ≤ a ∧ a ≤ 255) (hb : 0 ≤ b ∧ b ≤ 255) (h : byteI a = byteI b) : a = b := by
  unfold byteI at h
  have := congrArg UInt8.toNat h
  rw [UInt8.toNat_ofNat_of_lt' (by show _ < 256; omega), UInt8.toNat_ofNat_of_lt' (by show _ < 256; omega)] at this
  omega
theorem cons_two {a b c d : UInt8} {r s : List UInt8} (h : a :: b :: r = c :: d :: s) : a = c ∧ b = d ∧ r = s := by simpa using h
theorem wellE_kind {e : En} (h : wellE e = true) : 1 ≤ e.2.1 ∧ e.2.1 ≤ 3 := by
  simp only [wellE, Bool.and_eq_true, Bool.or_eq_true, beq_iff_eq, decide_eq_true_eq] at h
  rcases h.1.1 with (h | h) | h <;> omega
theorem wellE_len {e : En} (h : wellE e = true) : e.2.2.length ≤ 1024 := by
  simp only [wellE, Bool.and_eq_true, decide_eq_true_eq] at h
  exact h.2
theorem u64_toNat (x : UInt64) : x.toNat < 18446744073709551616 := x.toNat_lt
theorem ents_cancel : ∀ (l l' : List En) (t : UInt64) (r s : List UInt8), l.length = l'.length → standE l t = true → standE l' t = true → entsL t l ++ r = entsL t l' ++ s → l = l' ∧ r = s
  | [], [], t, r, s, _, _, _, h => ⟨rfl, h⟩
  | [], _ :: _, _, _, _, hl, _, _, _ => by simp at hl
  | _ :: _, [], _, _, _, hl, _, _, _ => by simp at hl
  | e :: l, e' :: l', t, r, s, hl, h1, h2, h => by
    simp only [standE, Bool.and_eq_true, decide_eq_true_eq] at h1 h2
    obtain ⟨⟨w1, g1⟩, k1⟩ := h1
    obtain ⟨⟨w2, g2⟩, k2⟩ := h2
    simp only [entsL, entL, List.append_assoc, List.cons_append] at h
    obtain ⟨q1, ha⟩ := short_cancel (u64_toNat _) (u64_toNat _) h
    clear h
    obtain ⟨q2, hb⟩ : byteI e.2.1 = byteI e'.2.1 ∧ shortL e.2.2.length ++ (e.2.2 ++ (entsL e.1 l ++ r)) = shortL e'.2.2.length ++ (e'.2.2 ++ (entsL e'.1 l' ++ s)) := by simpa using ha
    clear ha
    have := wellE_len w1
    have := wellE_len w2
    obtain ⟨q3, hc⟩ := short_cancel (by omega) (by omega) hb
    clear hb
    obtain ⟨q4, hd⟩ := List.append_inj hc q3
    clear hc
    have e1 : e.1 = e'.1 := by
      have : e.1 - t = e'.1 - t := UInt64.toNat_inj.1 q1
      have h5 := congrArg (· + t) this
      simpa using h5
    have e2 := byteI_inj ⟨by have := wellE_kind w1; omega, by have := wellE_kind w1; omega⟩ ⟨by have := wellE_kind w2; omega, by have := wellE_kind w2; omega⟩ q2
    obtain ⟨a, b, c⟩ := e
    obtain ⟨a', b', c'⟩ := e'
    simp only at e1 e2 q4 hd k1 k2
    subst e1 e2 q4
    obtain ⟨q5, q6⟩ := ents_cancel l l' a r s (by simpa using hl) k1 k2 hd
    exact ⟨by rw [q5], q6⟩
theorem map_byte_inj : ∀ (l l' : List Int), l.all (fun n => decide (1 ≤ n) && decide (n ≤ 255)) = true → l'.all (fun n => decide (1 ≤ n) && decide (n ≤ 255)) = true → l.map byteI = l'.map byteI → l = l'
  | [], [], _, _, _ => rfl
  | [], _ :: _, _, _, h => by simp at h
  | _ :: _, [], _, _, h => by simp at h
  | a :: l, b :: l', h1, h2, h => by
    simp only [List.all_cons, Bool.and_eq_true, decide_eq_true_eq, List.map_cons, List.cons.injEq] at h1 h2 h
    have := byteI_inj (by omega) (by omega) h.1
    subst this
    rw [map_byte_inj l l' h1.2 h2.2 h.2]
theorem rightM_spec {m : Ms} (h : rightM m = true) : (1 ≤ m.kd ∧ m.kd ≤ 5) ∧ zeroM m = true ∧ (1 ≤ m.fr ∧ m.fr ≤ 5 ∧ 1 ≤ m.to ∧ m.to ≤ 5) ∧ m.es.length ≤ 8 ∧ m.mb.length ≤ 5 ∧ m.da.length ≤ 65536 ∧ m.mb.all (fun n => decide (1 ≤ n) && decide (n ≤ 255)) = true ∧ standE m.es m.pt = true := by
  simp only [rightM, Bool.and_eq_true, decide_eq_true_eq] at h
  obtain ⟨⟨⟨⟨⟨⟨⟨⟨⟨⟨⟨⟨⟨⟨⟨⟨⟨⟨h1, h2⟩, h3⟩, h4⟩, h5⟩, h6⟩, h7⟩, h8⟩, h9⟩, h10⟩, h11⟩, h12⟩, h13⟩, h14⟩, h15⟩, h16⟩, h17⟩, h18⟩, h19⟩ := h
  exact ⟨⟨h1, h2⟩, h3, ⟨h7, h8, h9, h10⟩, h14, h15, h16, h17, h18⟩
theorem plain_inj {x y : Ms} (hx : rightM x = true) (hy : rightM y = true) (h : plainM x = plainM y) : x = y := by
  obtain ⟨⟨a1, a2⟩, zx, ⟨a3, a4, a5, a6⟩, a7, a8, a9, a10, a11⟩ := rightM_spec hx
  obtain ⟨⟨b1, b2⟩, zy, ⟨b3, b4, b5, b6⟩, b7, b8, b9, b10, b11⟩ := rightM_spec hy
  obtain ⟨k, f, t, tm, pi, pt, es, cm, ok, mb, da⟩ := x
  obtain ⟨k', f', t', tm', pi', pt', es', cm', ok', mb', da'⟩ := y
  simp only at a1 a2 a3 a4 a5 a6 a7 a8 a9 a10 a11 b1 b2 b3 b4 b5 b6 b7 b8 b9 b10 b11
  simp only [plainM, List.append_assoc, List.cons_append, List.nil_append] at h
  obtain ⟨e1, e2, haz⟩ := cons_two h
  clear h
  have e1 := byteI_inj (by omega) (by omega) e1
  have e2 := byteI_inj (by omega) (by omega) e2
  obtain ⟨e3, hbz⟩ := short_cancel (u64_toNat _) (u64_toNat _) haz
  clear haz
  have e3 := UInt64.toNat_inj.1 e3
  subst e1 e3
  have e4 : f = f' := by omega
  have e5 : t = t' := by omega
  subst e4 e5
  simp only [zeroM, Bool.and_eq_true, Bool.or_eq_true, beq_iff_eq, Bool.not_eq_true', decide_eq_true_eq] at zx zy
  obtain ⟨⟨⟨⟨⟨x1, x2⟩, x3⟩, x4⟩, x5⟩, x6⟩ := zx
  obtain ⟨⟨⟨⟨⟨y1, y2⟩, y3⟩, y4⟩, y5⟩, y6⟩ := zy
  have hk : k = 1 ∨ k = 2 ∨ k = 3 ∨ k = 4 ∨ k = 5 := by omega
  rcases hk with rfl | rfl | rfl | rfl | rfl
  · simp only [optL, hasO, hasP, hasC, hasE, hasM, hasD] at hbz x1 x2 x3 x4 x5 x6 y1 y2 y3 y4 y5 y6
    simp at hbz x1 x2 x3 x4 x5 x6 y1 y2 y3 y4 y5 y6
    obtain ⟨q1, hcz⟩ := short_cancel (u64_toNat _) (u64_toNat _) hbz
    clear hbz
    have hdz : shortL pt.toNat ++ [] = shortL pt'.toNat ++ [] := by simpa using hcz
    clear hcz
    obtain ⟨q2, hez⟩ := short_cancel (u64_toNat _) (u64_toNat _) hdz
    clear hdz
    have q1 := UInt64.toNat_inj.1 q1
    have q2 := UInt64.toNat_inj.1 q2
    simp_all
  · simp only [optL, hasO, hasP, hasC, hasE, hasM, hasD] at hbz x1 x2 x3 x4 x5 x6 y1 y2 y3 y4 y5 y6
    simp at hbz x1 x2 x3 x4 x5 x6 y1 y2 y3 y4 y5 y6
    have : ok = ok' := by cases ok <;> cases ok' <;> simp [boolL] at hbz ⊢
    simp_all
  · simp only [optL, hasO, hasP, hasC, hasE, hasM, hasD] at hbz x1 x2 x3 x4 x5 x6 y1 y2 y3 y4 y5 y6
    simp at hbz x1 x2 x3 x4 x5 x6 y1 y2 y3 y4 y5 y6
    obtain ⟨q1, hfz⟩ := short_cancel (u64_toNat _) (u64_toNat _) hbz
    clear hbz
    obtain ⟨q2, hgz⟩ := short_cancel (u64_toNat _) (u64_toNat _) hfz
    clear hfz
    obtain ⟨q3, hhz⟩ := short_cancel (u64_toNat _) (u64_toNat _) hgz
    clear hgz
    obtain ⟨q4, hiz⟩ := short_cancel (by omega) (by omega) hhz
    clear hhz
    have q1 := UInt64.toNat_inj.1 q1
    have q2 := UInt64.toNat_inj.1 q2
    have q3 := UInt64.toNat_inj.1 q3
    subst q1 q2 q3
    have hjz : entsL pt es ++ [] = entsL pt es' ++ [] := by simpa using hiz
    clear hiz
    obtain ⟨q5, _⟩ := ents_cancel _ _ _ _ _ q4 a11 b11 hjz
    simp_all
  · simp only [optL, hasO, hasP, hasC, hasE, hasM, hasD] at hbz x1 x2 x3 x4 x5 x6 y1 y2 y3 y4 y5 y6
    simp at hbz x1 x2 x3 x4 x5 x6 y1 y2 y3 y4 y5 y6
    obtain ⟨q0, hkz⟩ := hbz
    have : ok = ok' := by cases ok <;> cases ok' <;> simp [boolL] at q0 ⊢
    obtain ⟨q1, hlz⟩ := short_cancel (u64_toNat _) (u64_toNat _) hkz
    clear hkz
    have hmz : shortL pt.toNat ++ [] = shortL pt'.toNat ++ [] := by simpa using hlz
    clear hlz
    obtain ⟨q2, hnz⟩ := short_cancel (u64_toNat _) (u64_toNat _) hmz
    clear hmz
    have q1 := UInt64.toNat_inj.1 q1
    have q2 := UInt64.toNat_inj.1 q2
    simp_all
  · simp only [optL, hasO, hasP, hasC, hasE, hasM, hasD] at hbz x1 x2 x3 x4 x5 x6 y1 y2 y3 y4 y5 y6
    simp at hbz x1 x2 x3 x4 x5 x6 y1 y2 y3 y4 y5 y6
    obtain ⟨q1, hoz⟩ := short_cancel (u64_toNat _) (u64_toNat _) hbz
    clear hbz
    obtain ⟨q2, hpz⟩ := short_cancel (u64_toNat _) (u64_toNat _) hoz
    clear hoz
    obtain ⟨q4, hqz⟩ := short_cancel (by omega) (by omega) hpz
    clear hpz
    have q1 := UInt64.toNat_inj.1 q1
    have q2 := UInt64.toNat_inj.1 q2
    subst q1 q2
    obtain ⟨q5, hrz⟩ := List.append_inj hqz (by simpa using q4)
    clear hqz
    have q5 := map_byte_inj _ _ a10 b10 q5
    obtain ⟨q6, hsz⟩ := short_cancel (by omega) (by omega) hrz
    clear hrz
    simp_all
end Go.Proofs.YtpcfkjeikhehaaaDoor
