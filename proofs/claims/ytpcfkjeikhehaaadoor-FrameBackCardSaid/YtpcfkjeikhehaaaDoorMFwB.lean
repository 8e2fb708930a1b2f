import Derived.Test.YtpcfkjeikhehaaaDoorMFwA

/- The document's side of messages: zero. -/
set_option linter.unusedSimpArgs false
set_option linter.unusedVariables false
set_option maxRecDepth 20000
namespace Go.Proofs.YtpcfkjeikhehaaaDoor
open Go.RowKit
theorem counts_lit (k : Int) (n : Int) (f : UInt8) (b : Bool) (hn : n = bn f) (hb : decide (f ∈ fieldsL k) = b) : Hid (∀ w : World, Calls Tryd.prog 64 #[I k, .int .u8 n] w (Post w (.bool b))) := Lib.hid fun w => by
  subst hn hb; exact counts_any k f w
theorem fields_off {k : Int} (hk : ¬ (1 ≤ k ∧ k ≤ 5)) : fieldsL k = [] := by
  unfold fieldsL
  rw [if_neg (by omega), if_neg (by omega), if_neg (by omega), if_neg (by omega), if_neg (by omega)]
set_option maxHeartbeats 4000000 in
theorem zero_any (k : Int) (w : World) (fr to : Int) (tm pi pt cm : UInt64) (ea ma da : Option Addr) (en ec mn mc dn dc : Nat) (ok : Bool) :
    Calls Tryd.prog 39 #[.agg #[I k, I fr, I to, L tm, L pi, L pt, .slice ea en ec, L cm, .bool ok, .slice ma mn mc, .slice da dn dc]] w (Post w (.bool (zeroB k en mn dn ok pi pt cm))) := by
  by_cases hk : 1 ≤ k ∧ k ≤ 5
  · have h5 : k = 1 ∨ k = 2 ∨ k = 3 ∨ k = 4 ∨ k = 5 := by omega
    clear hk
    rcases h5 with rfl | rfl | rfl | rfl | rfl
    · have ho := counts_lit 1 111 111 false (by decide) (by decide)
      have hp := counts_lit 1 112 112 true (by decide) (by decide)
      have hc := counts_lit 1 99 99 false (by decide) (by decide)
      have he := counts_lit 1 101 101 false (by decide) (by decide)
      have hm := counts_lit 1 109 109 false (by decide) (by decide)
      have hd := counts_lit 1 100 100 false (by decide) (by decide)
      go_enter Tryd.func39, Tryd.ntmps39
      go_wp2_with (first | (go_at_call 64; (with_reducible refine (ho.out _).mono ?_); rintro e w2 ⟨rfl, X, rfl⟩) | (go_at_call 64; (with_reducible refine (hp.out _).mono ?_); rintro e w2 ⟨rfl, X, rfl⟩) | (go_at_call 64; (with_reducible refine (hc.out _).mono ?_); rintro e w2 ⟨rfl, X, rfl⟩) | (go_at_call 64; (with_reducible refine (he.out _).mono ?_); rintro e w2 ⟨rfl, X, rfl⟩) | (go_at_call 64; (with_reducible refine (hm.out _).mono ?_); rintro e w2 ⟨rfl, X, rfl⟩) | (go_at_call 64; (with_reducible refine (hd.out _).mono ?_); rintro e w2 ⟨rfl, X, rfl⟩))
      all_goals (go_ret; refine post_mk (congrArg (fun b => Ending.returned (.bool b)) ?_) (by (try show Ex _ _); repeat (first | (with_reducible exact ex_refl _) | (with_reducible assumption) | (with_reducible refine ex_drewL ?_) | (with_reducible refine ex_appR ?_ _) | (with_reducible refine ex_wx ?_ _) | (with_reducible refine ex_drew ?_) | (with_reducible refine ex_alloc ?_ _))); simp_all [zeroB, hasE, hasM, hasD, hasO, hasP, hasC, ln_zero, ln_eq0, ln_pos, ln_npos, int_beq0] <;> (intros; omega))
    · have ho := counts_lit 2 111 111 true (by decide) (by decide)
      have hp := counts_lit 2 112 112 false (by decide) (by decide)
      have hc := counts_lit 2 99 99 false (by decide) (by decide)
      have he := counts_lit 2 101 101 false (by decide) (by decide)
      have hm := counts_lit 2 109 109 false (by decide) (by decide)
      have hd := counts_lit 2 100 100 false (by decide) (by decide)
      go_enter Tryd.func39, Tryd.ntmps39
      go_wp2_with (first | (go_at_call 64; (with_reducible refine (ho.out _).mono ?_); rintro e w2 ⟨rfl, X, rfl⟩) | (go_at_call 64; (with_reducible refine (hp.out _).mono ?_); rintro e w2 ⟨rfl, X, rfl⟩) | (go_at_call 64; (with_reducible refine (hc.out _).mono ?_); rintro e w2 ⟨rfl, X, rfl⟩) | (go_at_call 64; (with_reducible refine (he.out _).mono ?_); rintro e w2 ⟨rfl, X, rfl⟩) | (go_at_call 64; (with_reducible refine (hm.out _).mono ?_); rintro e w2 ⟨rfl, X, rfl⟩) | (go_at_call 64; (with_reducible refine (hd.out _).mono ?_); rintro e w2 ⟨rfl, X, rfl⟩))
      all_goals (go_ret; refine post_mk (congrArg (fun b => Ending.returned (.bool b)) ?_) (by (try show Ex _ _); repeat (first | (with_reducible exact ex_refl _) | (with_reducible assumption) | (with_reducible refine ex_drewL ?_) | (with_reducible refine ex_appR ?_ _) | (with_reducible refine ex_wx ?_ _) | (with_reducible refine ex_drew ?_) | (with_reducible refine ex_alloc ?_ _))); simp_all [zeroB, hasE, hasM, hasD, hasO, hasP, hasC, ln_zero, ln_eq0, ln_pos, ln_npos, int_beq0] <;> (intros; omega))
    · have ho := counts_lit 3 111 111 false (by decide) (by decide)
      have hp := counts_lit 3 112 112 true (by decide) (by decide)
      have hc := counts_lit 3 99 99 true (by decide) (by decide)
      have he := counts_lit 3 101 101 true (by decide) (by decide)
      have hm := counts_lit 3 109 109 false (by decide) (by decide)
      have hd := counts_lit 3 100 100 false (by decide) (by decide)
      go_enter Tryd.func39, Tryd.ntmps39
      go_wp2_with (first | (go_at_call 64; (with_reducible refine (ho.out _).mono ?_); rintro e w2 ⟨rfl, X, rfl⟩) | (go_at_call 64; (with_reducible refine (hp.out _).mono ?_); rintro e w2 ⟨rfl, X, rfl⟩) | (go_at_call 64; (with_reducible refine (hc.out _).mono ?_); rintro e w2 ⟨rfl, X, rfl⟩) | (go_at_call 64; (with_reducible refine (he.out _).mono ?_); rintro e w2 ⟨rfl, X, rfl⟩) | (go_at_call 64; (with_reducible refine (hm.out _).mono ?_); rintro e w2 ⟨rfl, X, rfl⟩) | (go_at_call 64; (with_reducible refine (hd.out _).mono ?_); rintro e w2 ⟨rfl, X, rfl⟩))
      all_goals (go_ret; refine post_mk (congrArg (fun b => Ending.returned (.bool b)) ?_) (by (try show Ex _ _); repeat (first | (with_reducible exact ex_refl _) | (with_reducible assumption) | (with_reducible refine ex_drewL ?_) | (with_reducible refine ex_appR ?_ _) | (with_reducible refine ex_wx ?_ _) | (with_reducible refine ex_drew ?_) | (with_reducible refine ex_alloc ?_ _))); simp_all [zeroB, hasE, hasM, hasD, hasO, hasP, hasC, ln_zero, ln_eq0, ln_pos, ln_npos, int_beq0] <;> (intros; omega))
    · have ho := counts_lit 4 111 111 true (by decide) (by decide)
      have hp := counts_lit 4 112 112 true (by decide) (by decide)
      have hc := counts_lit 4 99 99 false (by decide) (by decide)
      have he := counts_lit 4 101 101 false (by decide) (by decide)
      have hm := counts_lit 4 109 109 false (by decide) (by decide)
      have hd := counts_lit 4 100 100 false (by decide) (by decide)
      go_enter Tryd.func39, Tryd.ntmps39
      go_wp2_with (first | (go_at_call 64; (with_reducible refine (ho.out _).mono ?_); rintro e w2 ⟨rfl, X, rfl⟩) | (go_at_call 64; (with_reducible refine (hp.out _).mono ?_); rintro e w2 ⟨rfl, X, rfl⟩) | (go_at_call 64; (with_reducible refine (hc.out _).mono ?_); rintro e w2 ⟨rfl, X, rfl⟩) | (go_at_call 64; (with_reducible refine (he.out _).mono ?_); rintro e w2 ⟨rfl, X, rfl⟩) | (go_at_call 64; (with_reducible refine (hm.out _).mono ?_); rintro e w2 ⟨rfl, X, rfl⟩) | (go_at_call 64; (with_reducible refine (hd.out _).mono ?_); rintro e w2 ⟨rfl, X, rfl⟩))
      all_goals (go_ret; refine post_mk (congrArg (fun b => Ending.returned (.bool b)) ?_) (by (try show Ex _ _); repeat (first | (with_reducible exact ex_refl _) | (with_reducible assumption) | (with_reducible refine ex_drewL ?_) | (with_reducible refine ex_appR ?_ _) | (with_reducible refine ex_wx ?_ _) | (with_reducible refine ex_drew ?_) | (with_reducible refine ex_alloc ?_ _))); simp_all [zeroB, hasE, hasM, hasD, hasO, hasP, hasC, ln_zero, ln_eq0, ln_pos, ln_npos, int_beq0] <;> (intros; omega))
    · have ho := counts_lit 5 111 111 false (by decide) (by decide)
      have hp := counts_lit 5 112 112 true (by decide) (by decide)
      have hc := counts_lit 5 99 99 false (by decide) (by decide)
      have he := counts_lit 5 101 101 false (by decide) (by decide)
      have hm := counts_lit 5 109 109 true (by decide) (by decide)
      have hd := counts_lit 5 100 100 true (by decide) (by decide)
      go_enter Tryd.func39, Tryd.ntmps39
      go_wp2_with (first | (go_at_call 64; (with_reducible refine (ho.out _).mono ?_); rintro e w2 ⟨rfl, X, rfl⟩) | (go_at_call 64; (with_reducible refine (hp.out _).mono ?_); rintro e w2 ⟨rfl, X, rfl⟩) | (go_at_call 64; (with_reducible refine (hc.out _).mono ?_); rintro e w2 ⟨rfl, X, rfl⟩) | (go_at_call 64; (with_reducible refine (he.out _).mono ?_); rintro e w2 ⟨rfl, X, rfl⟩) | (go_at_call 64; (with_reducible refine (hm.out _).mono ?_); rintro e w2 ⟨rfl, X, rfl⟩) | (go_at_call 64; (with_reducible refine (hd.out _).mono ?_); rintro e w2 ⟨rfl, X, rfl⟩))
      all_goals (go_ret; refine post_mk (congrArg (fun b => Ending.returned (.bool b)) ?_) (by (try show Ex _ _); repeat (first | (with_reducible exact ex_refl _) | (with_reducible assumption) | (with_reducible refine ex_drewL ?_) | (with_reducible refine ex_appR ?_ _) | (with_reducible refine ex_wx ?_ _) | (with_reducible refine ex_drew ?_) | (with_reducible refine ex_alloc ?_ _))); simp_all [zeroB, hasE, hasM, hasD, hasO, hasP, hasC, ln_zero, ln_eq0, ln_pos, ln_npos, int_beq0] <;> (intros; omega))
  · have hf := fields_off hk
    have ho := counts_lit k 111 111 false (by decide) (by rw [hf]; rfl)
    have hp := counts_lit k 112 112 false (by decide) (by rw [hf]; rfl)
    have hc := counts_lit k 99 99 false (by decide) (by rw [hf]; rfl)
    have he := counts_lit k 101 101 false (by decide) (by rw [hf]; rfl)
    have hm := counts_lit k 109 109 false (by decide) (by rw [hf]; rfl)
    have hd := counts_lit k 100 100 false (by decide) (by rw [hf]; rfl)
    have g1 : (k == 1) = false := beq_eq_false_iff_ne.2 (by omega)
    have g2 : (k == 2) = false := beq_eq_false_iff_ne.2 (by omega)
    have g3 : (k == 3) = false := beq_eq_false_iff_ne.2 (by omega)
    have g4 : (k == 4) = false := beq_eq_false_iff_ne.2 (by omega)
    have g5 : (k == 5) = false := beq_eq_false_iff_ne.2 (by omega)
    clear hk hf
    go_enter Tryd.func39, Tryd.ntmps39
    go_wp2_with (first | (go_at_call 64; (with_reducible refine (ho.out _).mono ?_); rintro e w2 ⟨rfl, X, rfl⟩) | (go_at_call 64; (with_reducible refine (hp.out _).mono ?_); rintro e w2 ⟨rfl, X, rfl⟩) | (go_at_call 64; (with_reducible refine (hc.out _).mono ?_); rintro e w2 ⟨rfl, X, rfl⟩) | (go_at_call 64; (with_reducible refine (he.out _).mono ?_); rintro e w2 ⟨rfl, X, rfl⟩) | (go_at_call 64; (with_reducible refine (hm.out _).mono ?_); rintro e w2 ⟨rfl, X, rfl⟩) | (go_at_call 64; (with_reducible refine (hd.out _).mono ?_); rintro e w2 ⟨rfl, X, rfl⟩))
    all_goals (go_ret; refine post_mk (congrArg (fun b => Ending.returned (.bool b)) ?_) (by (try show Ex _ _); repeat (first | (with_reducible exact ex_refl _) | (with_reducible assumption) | (with_reducible refine ex_drewL ?_) | (with_reducible refine ex_appR ?_ _) | (with_reducible refine ex_wx ?_ _) | (with_reducible refine ex_drew ?_) | (with_reducible refine ex_alloc ?_ _))); simp_all [zeroB, hasE, hasM, hasD, hasO, hasP, hasC, ln_zero, ln_eq0, ln_pos, ln_npos, int_beq0] <;> (intros; omega))
end Go.Proofs.YtpcfkjeikhehaaaDoor

/- Which messages may be, told by places. -/
set_option linter.unusedSimpArgs false
set_option linter.unusedVariables false
set_option maxRecDepth 20000
namespace Go.Proofs.YtpcfkjeikhehaaaDoor
open Go.RowKit
def prevT (t : UInt64) (l : List En) (i : Nat) : UInt64 := if i = 0 then t else (enAt l (i - 1)).1
theorem prevT_succ (t : UInt64) (l : List En) (i : Nat) : prevT t l (i + 1) = (enAt l i).1 := by simp [prevT]
theorem enAt_cons (e : En) (l : List En) (i : Nat) : enAt (e :: l) (i + 1) = enAt l i := by simp [enAt]
theorem enAt_zero (e : En) (l : List En) : enAt (e :: l) 0 = e := by simp [enAt]
theorem prevT_cons (t : UInt64) (e : En) (l : List En) (i : Nat) : prevT t (e :: l) (i + 1) = prevT e.1 l i := by
  rw [prevT_succ]
  cases i with
  | zero => rw [enAt_zero]; rfl
  | succ i => rw [enAt_cons, prevT_succ]
theorem stand_iff : ∀ (l : List En) (t : UInt64), standE l t = true ↔ ∀ i, i < l.length → wellE (enAt l i) = true ∧ (prevT t l i).toNat ≤ (enAt l i).1.toNat
  | [], t => by simp [standE]
  | e :: l, t => by
    simp only [standE, Bool.and_eq_true, decide_eq_true_eq, stand_iff l e.1]
    constructor
    · rintro ⟨⟨h1, h2⟩, h3⟩ i hi
      cases i with
      | zero => rw [enAt_zero]; exact ⟨h1, h2⟩
      | succ i => rw [enAt_cons, prevT_cons]; exact h3 i (by simpa using hi)
    · intro h
      have h0 := h 0 (by simp)
      rw [enAt_zero] at h0
      refine ⟨h0, fun i hi => ?_⟩
      have := h (i + 1) (by simpa using hi)
      rwa [enAt_cons, prevT_cons] at this
theorem lastT_prev : ∀ (l : List En) (t : UInt64), lastT t l = prevT t l l.length
  | [], t => rfl
  | e :: l, t => by
    rw [List.length_cons, prevT_cons, ← lastT_prev l e.1]
    unfold lastT
    cases l with
    | nil => rfl
    | cons a r => rw [List.getLast?_cons_cons]; cases h : (a :: r).getLast? with
      | none => simp at h
      | some x => rfl
theorem prev_mono {l : List En} {t : UInt64} (h : ∀ i, i < l.length → (prevT t l i).toNat ≤ (enAt l i).1.toNat) : ∀ (d i : Nat), i + d ≤ l.length → (prevT t l i).toNat ≤ (prevT t l (i + d)).toNat
  | 0, i, _ => Nat.le_refl _
  | d + 1, i, hd => by
    refine Nat.le_trans (prev_mono h d i (by omega)) ?_
    rw [← Nat.add_assoc, prevT_succ]
    exact h (i + d) (by omega)
theorem all_inAt (l : List Int) : l.all okN = true ↔ ∀ i, i < l.length → 1 ≤ inAt l i ∧ inAt l i ≤ 255 := by
  rw [List.all_eq_true]
  constructor
  · intro h i hi
    have := h _ (List.mem_of_getElem? (inAt_get hi))
    simpa [okN] using this
  · intro h x hx
    obtain ⟨i, hi, rfl⟩ := List.mem_iff_getElem.1 hx
    have := h i hi
    have h2 := inAt_get hi
    rw [List.getElem?_eq_getElem hi] at h2
    rw [Option.some.inj h2]
    simpa [okN] using this
/-- What the document asks, in its order. -/
theorem right_iff (m : Ms) : rightM m = true ↔
    ((1 ≤ m.kd ∧ m.kd ≤ 5) ∧ zeroM m = true ∧ 1 ≤ m.tm.toNat ∧ m.tm.toNat ≤ 4611686018427387904 ∧ m.fr ≠ m.to) ∧ (1 ≤ m.fr ∧ m.fr ≤ 5) ∧ (1 ≤ m.to ∧ m.to ≤ 5) ∧
    ((m.pi = 0 ↔ m.pt = 0) ∧ m.pt.toNat ≤ m.tm.toNat ∧ ¬ (m.kd = 5 ∧ m.pi = 0) ∧ m.pi.toNat + m.es.length ≤ 18446744073709551614) ∧ (m.es.length ≤ 8 ∧ m.mb.length ≤ 5 ∧ m.da.length ≤ 65536) ∧
    (∀ i, i < m.mb.length → 1 ≤ inAt m.mb i ∧ inAt m.mb i ≤ 255) ∧ ∀ i, i < m.es.length → wellE (enAt m.es i) = true ∧ (prevT m.pt m.es i).toNat ≤ (enAt m.es i).1.toNat ∧ (enAt m.es i).1.toNat ≤ m.tm.toNat := by
  have hz : (decide (m.pi = 0) == decide (m.pt = 0)) = true ↔ (m.pi = 0 ↔ m.pt = 0) := by
    rw [beq_iff_eq]; exact ⟨fun h => by simpa using h, fun h => by simp [h]⟩
  have hk : (!(m.kd == 5 && decide (m.pi = 0))) = true ↔ ¬ (m.kd = 5 ∧ m.pi = 0) := by
    by_cases h1 : m.kd = 5 <;> by_cases h2 : m.pi = 0 <;> simp [h1, h2]
  have ha : m.mb.all (fun n => decide (1 ≤ n) && decide (n ≤ 255)) = m.mb.all okN := rfl
  simp only [rightM, Bool.and_eq_true, hz, hk, ha, decide_eq_true_eq, all_inAt, stand_iff, lastT_prev]
  constructor
  · rintro ⟨⟨⟨⟨⟨⟨⟨⟨⟨⟨⟨⟨⟨⟨⟨⟨⟨⟨h1, h2⟩, h3⟩, h4⟩, h5⟩, h6⟩, h7⟩, h8⟩, h9⟩, h10⟩, h11⟩, h12⟩, h13⟩, h14⟩, h15⟩, h16⟩, h17⟩, h18⟩, h19⟩
    have hm := prev_mono fun i hi => (h18 i hi).2
    refine ⟨⟨⟨h1, h2⟩, h3, h4, h5, h6⟩, ⟨h7, h8⟩, ⟨h9, h10⟩, ⟨h11, ?_, h12, h13⟩, ⟨h14, h15, h16⟩, h17, fun i hi => ⟨(h18 i hi).1, (h18 i hi).2, ?_⟩⟩
    · have := hm m.es.length 0 (by omega)
      rw [Nat.zero_add] at this
      exact Nat.le_trans this h19
    · have := hm (m.es.length - (i + 1)) (i + 1) (by omega)
      rw [prevT_succ, show i + 1 + (m.es.length - (i + 1)) = m.es.length by omega] at this
      exact Nat.le_trans this h19
  · rintro ⟨⟨⟨h1, h2⟩, h3, h4, h5, h6⟩, ⟨h7, h8⟩, ⟨h9, h10⟩, ⟨h11, hp, h12, h13⟩, ⟨h14, h15, h16⟩, h17, h18⟩
    refine ⟨⟨⟨⟨⟨⟨⟨⟨⟨⟨⟨⟨⟨⟨⟨⟨⟨⟨h1, h2⟩, h3⟩, h4⟩, h5⟩, h6⟩, h7⟩, h8⟩, h9⟩, h10⟩, h11⟩, h12⟩, h13⟩, h14⟩, h15⟩, h16⟩, h17⟩, fun i hi => ⟨(h18 i hi).1, (h18 i hi).2.1⟩⟩, ?_⟩
    cases hn : m.es.length with
    | zero => exact hp
    | succ n => rw [prevT_succ]; exact (h18 n (by omega)).2.2
end Go.Proofs.YtpcfkjeikhehaaaDoor
