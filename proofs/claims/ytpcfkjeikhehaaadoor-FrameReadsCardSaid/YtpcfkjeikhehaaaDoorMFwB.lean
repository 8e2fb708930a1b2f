import Derived.Test.YtpcfkjeikhehaaaDoorMFwA

/- The document's side of messages: zero. -/
set_option linter.unusedSimpArgs false
set_option linter.unusedVariables false
set_option maxRecDepth 20000
namespace Go.Proofs.YtpcfkjeikhehaaaDoor
open Go.RowKit
theorem counts_lit (k : Int) (n : Int) (f : UInt8) (b : Bool) (hn : n = bn f) (hb : decide (f ∈ fieldsL k) = b) : Hid (∀ w : World, Calls Tryd.prog 64 #[I k, .int .u8 n] w (Post w (.bool b))) := Lib.hid fun w => by
  subst hn hb; exact counts_any k f w
theorem fields_off {k : Int} (hk : ¬ (1 ≤ k ∧ k ≤ 5)) : fieldsL k = [] := by
  unfold fieldsL
  rw [if_neg (by omega), if_neg (by omega), if_neg (by omega), if_neg (by omega), if_neg (by omega)]
set_option maxHeartbeats 4000000 in
theorem zero_any (k : Int) (w : World) (fr to : Int) (tm pi pt cm : UInt64) (ea ma da : Option Addr) (en ec mn mc dn dc : Nat) (ok : Bool) :
    Calls Tryd.prog 39 #[.agg #[I k, I fr, I to, L tm, L pi, L pt, .slice ea en ec, L cm, .bool ok, .slice ma mn mc, .slice da dn dc]] w (Post w (.bool (zeroB k en mn dn ok pi pt cm))) := by
  by_cases hk : 1 ≤ k ∧ k ≤ 5
  · have h5 : k = 1 ∨ k = 2 ∨ k = 3 ∨ k = 4 ∨ k = 5 := by omega
    clear hk
    rcases h5 with rfl | rfl | rfl | rfl | rfl
    · have ho := counts_lit 1 111 111 false (by decide) (by decide)
      have hp := counts_lit 1 112 112 true (by decide) (by decide)
      have hc := counts_lit 1 99 99 false (by decide) (by decide)
      have he := counts_lit 1 101 101 false (by decide) (by decide)
      have hm := counts_lit 1 109 109 false (by decide) (by decide)
      have hd := counts_lit 1 100 100 false (by decide) (by decide)
      go_enter Tryd.func39, Tryd.ntmps39
      go_wp2_with (first | (go_at_call 64; (with_reducible refine (ho.out _).mono ?_); rintro e w2 ⟨rfl, X, rfl⟩) | (go_at_call 64; (with_reducible refine (hp.out _).mono ?_); rintro e w2 ⟨rfl, X, rfl⟩) | (go_at_call 64; (with_reducible refine (hc.out _).mono ?_); rintro e w2 ⟨rfl, X, rfl⟩) | (go_at_call 64; (with_reducible refine (he.out _).mono ?_); rintro e w2 ⟨rfl, X, rfl⟩) | (go_at_call 64; (with_reducible refine (hm.out _).mono ?_); rintro e w2 ⟨rfl, X, rfl⟩) | (go_at_call 64; (with_reducible refine (hd.out _).mono ?_); rintro e w2 ⟨rfl, X, rfl⟩))
      all_goals (go_ret; refine post_mk (congrArg (fun b => Ending.returned (.bool b)) ?_) (by (try show Ex _ _); repeat (first | (with_reducible exact ex_refl _) | (with_reducible assumption) | (with_reducible refine ex_drewL ?_) | (with_reducible refine ex_appR ?_ _) | (with_reducible refine ex_wx ?_ _) | (with_reducible refine ex_drew ?_) | (with_reducible refine ex_alloc ?_ _))); simp_all [zeroB, hasE, hasM, hasD, hasO, hasP, hasC, ln_zero, ln_eq0, ln_pos, ln_npos, int_beq0] <;> (intros; omega))
    · have ho := counts_lit 2 111 111 true (by decide) (by decide)
      have hp := counts_lit 2 112 112 false (by decide) (by decide)
      have hc := counts_lit 2 99 99 false (by decide) (by decide)
      have he := counts_lit 2 101 101 false (by decide) (by decide)
      have hm := counts_lit 2 109 109 false (by decide) (by decide)
      have hd := counts_lit 2 100 100 false (by decide) (by decide)
      go_enter Tryd.func39, Tryd.ntmps39
      go_wp2_with (first | (go_at_call 64; (with_reducible refine (ho.out _).mono ?_); rintro e w2 ⟨rfl, X, rfl⟩) | (go_at_call 64; (with_reducible refine (hp.out _).mono ?_); rintro e w2 ⟨rfl, X, rfl⟩) | (go_at_call 64; (with_reducible refine (hc.out _).mono ?_); rintro e w2 ⟨rfl, X, rfl⟩) | (go_at_call 64; (with_reducible refine (he.out _).mono ?_); rintro e w2 ⟨rfl, X, rfl⟩) | (go_at_call 64; (with_reducible refine (hm.out _).mono ?_); rintro e w2 ⟨rfl, X, rfl⟩) | (go_at_call 64; (with_reducible refine (hd.out _).mono ?_); rintro e w2 ⟨rfl, X, rfl⟩))
      all_goals (go_ret; refine post_mk (congrArg (fun b => Ending.returned (.bool b)) ?_) (by (try show Ex _ _); repeat (first | (with_reducible exact ex_refl _) | (with_reducible assumption) | (with_reducible refine ex_drewL ?_) | (with_reducible refine ex_appR ?_ _) | (with_reducible refine ex_wx ?_ _) | (with_reducible refine ex_drew ?_) | (with_reducible refine ex_alloc ?_ _))); simp_all [zeroB, hasE, hasM, hasD, hasO, hasP, hasC, ln_zero, ln_eq0, ln_pos, ln_npos, int_beq0] <;> (intros; omega))
    · have ho := counts_lit 3 111 111 false (by decide) (by decide)
      have hp := counts_lit 3 112 112 true (by decide) (by decide)
      have hc := counts_lit 3 99 99 true (by decide) (by decide)
      have he := counts_lit 3 101 101 true (by decide) (by decide)
      have hm := counts_lit 3 109 109 false (by decide) (by decide)
      have hd := counts_lit 3 100 100 false (by decide) (by decide)
      go_enter Tryd.func39, Tryd.ntmps39
      go_wp2_with (first | (go_at_call 64; (with_reducible refine (ho.out _).mono ?_); rintro e w2 ⟨rfl, X, rfl⟩) | (go_at_call 64; (with_reducible refine (hp.out _).mono ?_); rintro e w2 ⟨rfl, X, rfl⟩) | (go_at_call 64; (with_reducible refine (hc.out _).mono ?_); rintro e w2 ⟨rfl, X, rfl⟩) | (go_at_call 64; (with_reducible refine (he.out _).mono ?_); rintro e w2 ⟨rfl, X, rfl⟩) | (go_at_call 64; (with_reducible refine (hm.out _).mono ?_); rintro e w2 ⟨rfl, X, rfl⟩) | (go_at_call 64; (with_reducible refine (hd.out _).mono ?_); rintro e w2 ⟨rfl, X, rfl⟩))
      all_goals (go_ret; refine post_mk (congrArg (fun b => Ending.returned (.bool b)) ?_) (by (try show Ex _ _); repeat (first | (with_reducible exact ex_refl _) | (with_reducible assumption) | (with_reducible refine ex_drewL ?_) | (with_reducible refine ex_appR ?_ _) | (with_reducible refine ex_wx ?_ _) | (with_reducible refine ex_drew ?_) | (with_reducible refine ex_alloc ?_ _))); simp_all [zeroB, hasE, hasM, hasD, hasO, hasP, hasC, ln_zero, ln_eq0, ln_pos, ln_npos, int_beq0] <;> (intros; omega))
    · have ho := counts_lit 4 111 111 true (by decide) (by decide)
      have hp := counts_lit 4 112 112 true (by decide) (by decide)
      have hc := counts_lit 4 99 99 false (by decide) (by decide)
      have he := counts_lit 4 101 101 false (by decide) (by decide)
      have hm := counts_lit 4 109 109 false (by decide) (by decide)
      have hd := counts_lit 4 100 100 false (by decide) (by decide)
      go_enter Tryd.func39, Tryd.ntmps39
      go_wp2_with (first | (go_at_call 64; (with_reducible refine (ho.out _).mono ?_); rintro e w2 ⟨rfl, X, rfl⟩) | (go_at_call 64; (with_reducible refine (hp.out _).mono ?_); rintro e w2 ⟨rfl, X, rfl⟩) | (go_at_call 64; (with_reducible refine (hc.out _).mono ?_); rintro e w2 ⟨rfl, X, rfl⟩) | (go_at_call 64; (with_reducible refine (he.out _).mono ?_); rintro e w2 ⟨rfl, X, rfl⟩) | (go_at_call 64; (with_reducible refine (hm.out _).mono ?_); rintro e w2 ⟨rfl, X, rfl⟩) | (go_at_call 64; (with_reducible refine (hd.out _).mono ?_); rintro e w2 ⟨rfl, X, rfl⟩))
      all_goals (go_ret; refine post_mk (congrArg (fun b => Ending.returned (.bool b)) ?_) (by (try show Ex _ _); repeat (first | (with_reducible exact ex_refl _) | (with_reducible assumption) | (with_reducible refine ex_drewL ?_) | (with_reducible refine ex_appR ?_ _) | (with_reducible refine ex_wx ?_ _) | (with_reducible refine ex_drew ?_) | (with_reducible refine ex_alloc ?_ _))); simp_all [zeroB, hasE, hasM, hasD, hasO, hasP, hasC, ln_zero, ln_eq0, ln_pos, ln_npos, int_beq0] <;> (intros; omega))
    · have ho := counts_lit 5 111 111 false (by decide) (by decide)
      have hp := counts_lit 5 112 112 true (by decide) (by decide)
      have hc := counts_lit 5 99 99 false (by decide) (by decide)
      have he := counts_lit 5 101 101 false (by decide) (by decide)
      have hm := counts_lit 5 109 109 true (by decide) (by decide)
      have hd := counts_lit 5 100 100 true (by decide) (by decide)
      go_enter Tryd.func39, Tryd.ntmps39
      go_wp2_with (first | (go_at_call 64; (with_reducible refine (ho.out _).mono ?_); rintro e w2 ⟨rfl, X, rfl⟩) | (go_at_call 64; (with_reducible refine (hp.out _).mono ?_); rintro e w2 ⟨rfl, X, rfl⟩) | (go_at_call 64; (with_reducible refine (hc.out _).mono ?_); rintro e w2 ⟨rfl, X, rfl⟩) | (go_at_call 64; (with_reducible refine (he.out _).mono ?_); rintro e w2 ⟨rfl, X, rfl⟩) | (go_at_call 64; (with_reducible refine (hm.out _).mono ?_); rintro e w2 ⟨rfl, X, rfl⟩) | (go_at_call 64; (with_reducible refine (hd.out _).mono ?_); rintro e w2 ⟨rfl, X, rfl⟩))
      all_goals (go_ret; refine post_mk (congrArg (fun b => Ending.returned (.bool b)) ?_) (by (try show Ex _ _); repeat (first | (with_reducible exact ex_refl _) | (with_reducible assumption) | (with_reducible refine ex_drewL ?_) | (with_reducible refine ex_appR ?_ _) | (with_reducible refine ex_wx ?_ _) | (with_reducible refine ex_drew ?_) | (with_reducible refine ex_alloc ?_ _))); simp_all [zeroB, hasE, hasM, hasD, hasO, hasP, hasC, ln_zero, ln_eq0, ln_pos, ln_npos, int_beq0] <;> (intros; omega))
  · have hf := fields_off hk
    have ho := counts_lit k 111 111 false (by decide) (by rw [hf]; rfl)
    have hp := counts_lit k 112 112 false (by decide) (by rw [hf]; rfl)
    have hc := counts_lit k 99 99 false (by decide) (by rw [hf]; rfl)
    have he := counts_lit k 101 101 false (by decide) (by rw [hf]; rfl)
    have hm := counts_lit k 109 109 false (by decide) (by rw [hf]; rfl)
    have hd := counts_lit k 100 100 false (by decide) (by rw [hf]; rfl)
    have g1 : (k == 1) = false := beq_eq_false_iff_ne.2 (by omega)
    have g2 : (k == 2) = false := beq_eq_false_iff_ne.2 (by omega)
    have g3 : (k == 3) = false := beq_eq_false_iff_ne.2 (by omega)
    have g4 : (k == 4) = false := beq_eq_false_iff_ne.2 (by omega)
    have g5 : (k == 5) = false := beq_eq_false_iff_ne.2 (by omega)
    clear hk hf
    go_enter Tryd.func39, Tryd.ntmps39
    go_wp2_with (first | (go_at_call 64; (with_reducible refine (ho.out _).mono ?_); rintro e w2 ⟨rfl, X, rfl⟩) | (go_at_call 64; (with_reducible refine (hp.out _).mono ?_); rintro e w2 ⟨rfl, X, rfl⟩) | (go_at_call 64; (with_reducible refine (hc.out _).mono ?_); rintro e w2 ⟨rfl, X, rfl⟩) | (go_at_call 64; (with_reducible refine (he.out _).mono ?_); rintro e w2 ⟨rfl, X, rfl⟩) | (go_at_call 64; (with_reducible refine (hm.out _).mono ?_); rintro e w2 ⟨rfl, X, rfl⟩) | (go_at_call 64; (with_reducible refine (hd.out _).mono ?_); rintro e w2 ⟨rfl, X, rfl⟩))
    all_goals (go_ret; refine post_mk (congrArg (fun b => Ending.returned (.bool b)) ?_) (by (try show Ex _ _); repeat (first | (with_reducible exact ex_refl _) | (with_reducible assumption) | (with_reducible refine ex_drewL ?_) | (with_reducible refine ex_appR ?_ _) | (with_reducible refine ex_wx ?_ _) | (with_reducible refine ex_drew ?_) | (with_reducible refine ex_alloc ?_ _))); simp_all [zeroB, hasE, hasM, hasD, hasO, hasP, hasC, ln_zero, ln_eq0, ln_pos, ln_npos, int_beq0] <;> (intros; omega))
end Go.Proofs.YtpcfkjeikhehaaaDoor

/- Which messages may be, told by places. -/
set_option linter.unusedSimpArgs false
set_option linter.unusedVariables false
set_option maxRecDepth 20000
namespace Go.Proofs.YtpcfkjeikhehaaaDoor
open Go.RowKit
def prevT (t : UInt64) (l : List En) (i : Nat) : UInt64 := if i = 0 then t else (enAt l (i - 1)).1
theorem prevT_succ (t : UInt64) (l : List En) (i : Nat) : prevT t l (i + 1) = (enAt l i).1 := by simp [prevT]
theorem enAt_cons (e : En) (l : List En) (i : Nat) : enAt (e :: l) (i + 1) = enAt l i := by simp [enAt]
theorem enAt_zero (e : En) (l : List En) : enAt (e :: l) 0 = e := by simp [enAt]
theorem prevT_cons (t : UInt64) (e : En) (l : List En) (i : Nat) : prevT t (e :: l) (i + 1) = prevT e.1 l i := by
  rw [prevT_succ]
  cases i with
  | zero => rw [enAt_zero]; rfl
  | succ i => rw [enAt_cons, prevT_succ]
theorem stand_iff : ∀ (l : List En) (t : UInt64), standE l t = true ↔ ∀ i, i < l.length → wellE (enAt l i) = true ∧ (prevT t l i).toNat ≤ (enAt l i).1.toNat
  | [], t => by simp [standE]
  | e :: l, t => by
    simp only [standE, Bool.and_eq_true, decide_eq_true_eq, stand_iff l e.1]
    constructor
    · rintro ⟨⟨h1, h2⟩, h3⟩ i hi
      cases i with
      | zero => rw [enAt_zero]; exact ⟨h1, h2⟩
      | succ i => rw [enAt_cons, prevT_cons]; exact h3 i (by simpa using hi)
    · intro h
      have h0 := h 0 (by simp)
      rw [enAt_zero] at h0
      refine ⟨h0, fun i hi => ?_⟩
      have := h (i + 1) (by simpa using hi)
      rwa [enAt_cons, prevT_cons] at this
theorem lastT_prev : ∀ (l : List En) (t : UInt64), lastT t l = prevT t l l.length
  | [], t => rfl
  | e :: l, t => by
    rw [List.length_cons, prevT_cons, ← lastT_prev l e.1]
    unfold lastT
    cases l with
    | nil => rfl
    | cons a r => rw [List.getLast?_cons_cons]; cases h : (a :: r).getLast? with
      | none => simp at h
      | some x => rfl
theorem prev_mono {l : List En} {t : UInt64} (h : ∀ i, i < l.length → (prevT t l i).toNat ≤ (enAt l i).1.toNat) : ∀ (d i : Nat), i + d ≤ l.length → (prevT t l i).toNat ≤ (prevT t l (i + d)).toNat
  | 0, i, _ => Nat.le_refl _
  | d + 1, i, hd => by
    refine Nat.le_trans (prev_mono h d i (by omega)) ?_
    rw [← Nat.add_assoc, prevT_succ]
    exact h (i + d) (by omega)
theorem all_inAt (l : List Int) : l.all okN = true ↔ ∀ i, i < l.length → 1 ≤ inAt l i ∧ inAt l i ≤ 255 := by
  rw [List.all_eq_true]
  constructor
  · intro h i hi
    have := h _ (List.mem_of_getElem? (inAt_get hi))
    simpa [okN] using this
  · intro h x hx
    obtain ⟨i, hi, rfl⟩ := List.mem_iff_getElem.1 hx
    have := h i hi
    have h2 := inAt_get hi
    rw [List.getElem?_eq_getElem hi] at h2
    rw [Option.some.inj h2]
    simpa [okN] using this
/-- What the document asks, in its order. -/
theorem right_iff (m : Ms) : rightM m = true ↔
    ((1 ≤ m.kd ∧ m.kd ≤ 5) ∧ zeroM m = true ∧ 1 ≤ m.tm.toNat ∧ m.tm.toNat ≤ 4611686018427387904 ∧ m.fr ≠ m.to) ∧ (1 ≤ m.fr ∧ m.fr ≤ 5) ∧ (1 ≤ m.to ∧ m.to ≤ 5) ∧
    ((m.pi = 0 ↔ m.pt = 0) ∧ m.pt.toNat ≤ m.tm.toNat ∧ ¬ (m.kd = 5 ∧ m.pi = 0) ∧ m.pi.toNat + m.es.length ≤ 18446744073709551614) ∧ (m.es.length ≤ 8 ∧ m.mb.length ≤ 5 ∧ m.da.length ≤ 65536) ∧
    (∀ i, i < m.mb.length → 1 ≤ inAt m.mb i ∧ inAt m.mb i ≤ 255) ∧ ∀ i, i < m.es.length → wellE (enAt m.es i) = true ∧ (prevT m.pt m.es i).toNat ≤ (enAt m.es i).1.toNat ∧ (enAt m.es i).1.toNat ≤ m.tm.toNat := by
  have hz : (decide (m.pi = 0) == decide (m.pt = 0)) = true ↔ (m.pi = 0 ↔ m.pt = 0) := by
    rw [beq_iff_eq]; exact ⟨fun h => by simpa using h, fun h => by simp [h]⟩
  have hk : (!(m.kd == 5 && decide (m.pi = 0))) = true ↔ ¬ (m.kd = 5 ∧ m.pi = 0) := by
    by_cases h1 : m.kd = 5 <;> by_cases h2 : m.pi = 0 <;> simp [h1, h2]
  have ha : m.mb.all (fun n => decide (1 ≤ n) && decide (n ≤ 255)) = m.mb.all okN := rfl
  simp only [rightM, Bool.and_eq_true, hz, hk, ha, decide_eq_true_eq, all_inAt, stand_iff, lastT_prev]
  constructor
  · rintro ⟨⟨⟨⟨⟨⟨⟨⟨⟨⟨⟨⟨⟨⟨⟨⟨⟨⟨h1, h2⟩, h3⟩, h4⟩, h5⟩, h6⟩, h7⟩, h8⟩, h9⟩, h10⟩, h11⟩, h12⟩, h13⟩, h14⟩, h15⟩, h16⟩, h17⟩, h18⟩, h19⟩
    have hm := prev_mono fun i hi => (h18 i hi).2
    refine ⟨⟨⟨h1, h2⟩, h3, h4, h5, h6⟩, ⟨h7, h8⟩, ⟨h9, h10⟩, ⟨h11, ?_, h12, h13⟩, ⟨h14, h15, h16⟩, h17, fun i hi => ⟨(h18 i hi).1, (h18 i hi).2, ?_⟩⟩
    · have := hm m.es.length 0 (by omega)
      rw [Nat.zero_add] at this
      exact Nat.le_trans this h19
    · have := hm (m.es.length - (i + 1)) (i + 1) (by omega)
      rw [prevT_succ, show i + 1 + (m.es.length - (i + 1)) = m.es.length by omega] at this
      exact Nat.le_trans this h19
  · rintro ⟨⟨⟨h1, h2⟩, h3, h4, h5, h6⟩, ⟨h7, h8⟩, ⟨h9, h10⟩, ⟨h11, hp, h12, h13⟩, ⟨h14, h15, h16⟩, h17, h18⟩
    refine ⟨⟨⟨⟨⟨⟨⟨⟨⟨⟨⟨⟨⟨⟨⟨⟨⟨⟨h1, h2⟩, h3⟩, h4⟩, h5⟩, h6⟩, h7⟩, h8⟩, h9⟩, h10⟩, h11⟩, h12⟩, h13⟩, h14⟩, h15⟩, h16⟩, h17⟩, fun i hi => ⟨(h18 i hi).1, (h18 i hi).2.1⟩⟩, ?_⟩
    cases hn : m.es.length with
    | zero => exact hp
    | succ n => rw [prevT_succ]; exact (h18 n (by omega)).2.2
end Go.Proofs.YtpcfkjeikhehaaaDoor

/- The document's Both; whether messages are the same. -/
set_option linter.unusedSimpArgs false
set_option linter.unusedVariables false
set_option maxRecDepth 20000
namespace Go.Proofs.YtpcfkjeikhehaaaDoor
open Go.RowKit
theorem ownl_cap {w w' : World} {g cap : Nat} (k : Ex (w.alloc (.cells (rowB cap fun _ => 0) 5)) w') (hg : g = w.heap.size) (hc : cap ≤ maxLen) : OwnL w' w.heap.size (.slice (some ⟨g, 0, none⟩) 0 cap) [] := by
  subst hg
  exact owns_ex (owns_new (B := w.heap.size) (s := 1) (n := 0) (cap := cap) (xs := Lib.byteCells []) rfl (Nat.le_refl _) (by omega) hc (by simp) (by simp [Lib.byteCells])) k
set_option maxHeartbeats 1000000 in
theorem both_any (l r : List UInt8) (va vb : Value) (w : World) (h1 : SlT w va l) (h2 : SlT w vb r) (hl : l.length + r.length ≤ 1000000) :
    Calls Tryd.prog 48 #[va, vb] w (PostOw w (l ++ r)) := by
  have H1 := Lib.hid (fun w' (k : Ex w w') => h1.ex k)
  have H2 := Lib.hid (fun w' (k : Ex w w') => h2.ex k)
  obtain ⟨a, c, rfl, k1, k2, k3, _⟩ := h1.out
  obtain ⟨b, d, rfl, k4, k5, k6, _⟩ := h2.out
  clear h1 h2
  obtain ⟨n, hn⟩ : ∃ n, l.length = n := ⟨_, rfl⟩
  obtain ⟨m, hm⟩ : ∃ m, r.length = m := ⟨_, rfl⟩
  have HN := Lib.hid hn
  have HM := Lib.hid hm
  rw [hn] at H1 hl k1 ⊢
  rw [hm] at H2 hl k4 ⊢
  clear hn hm
  have e1 : (0 : Int) ≤ (n : Int) + m := by omega
  have e2 : (n : Int) + m ≤ 281474976710656 := by omega
  go_enter Tryd.func48, Tryd.ntmps48
  go_wp2_with (first | (at_builtin; refine wpAppT (l := []) _ _ rfl rfl (ownl_cap (w := w) (cap := n + m) (by (try show Ex _ _); repeat (first | (with_reducible exact ex_refl _) | (with_reducible assumption) | (with_reducible refine ex_drewL ?_) | (with_reducible refine ex_appR ?_ _) | (with_reducible refine ex_wx ?_ _) | (with_reducible refine ex_drew ?_) | (with_reducible refine ex_alloc ?_ _))) rfl (by unfold maxLen; omega)) rfl rfl (H1.out _ (by (try show Ex _ _); repeat (first | (with_reducible exact ex_refl _) | (with_reducible assumption) | (with_reducible refine ex_drewL ?_) | (with_reducible refine ex_appR ?_ _) | (with_reducible refine ex_wx ?_ _) | (with_reducible refine ex_drew ?_) | (with_reducible refine ex_alloc ?_ _)))) (by have := HN.out; simp; omega) (by simp [go_sem]) (fun v1 w1 hown hA1 => ?_); obtain ⟨X1, rfl⟩ := hA1.ex (A := w) (by (try show Ex _ _); repeat (first | (with_reducible exact ex_refl _) | (with_reducible assumption) | (with_reducible refine ex_drewL ?_) | (with_reducible refine ex_appR ?_ _) | (with_reducible refine ex_wx ?_ _) | (with_reducible refine ex_drew ?_) | (with_reducible refine ex_alloc ?_ _))) (ownl_cap (w := w) (cap := n + m) (by (try show Ex _ _); repeat (first | (with_reducible exact ex_refl _) | (with_reducible assumption) | (with_reducible refine ex_drewL ?_) | (with_reducible refine ex_appR ?_ _) | (with_reducible refine ex_wx ?_ _) | (with_reducible refine ex_drew ?_) | (with_reducible refine ex_alloc ?_ _))) rfl (by unfold maxLen; omega)); clear hA1) | (at_builtin; refine wpAppT _ _ rfl rfl hown rfl rfl (H2.out _ (by (try show Ex _ _); repeat (first | (with_reducible exact ex_refl _) | (with_reducible assumption) | (with_reducible refine ex_drewL ?_) | (with_reducible refine ex_appR ?_ _) | (with_reducible refine ex_wx ?_ _) | (with_reducible refine ex_drew ?_) | (with_reducible refine ex_alloc ?_ _)))) (by have := HN.out; have := HM.out; simp; omega) (by simp [go_sem]) (fun v2 w2 hown2 hA2 => ?_); obtain ⟨X2, rfl⟩ := hA2.ex (A := w) (by (try show Ex _ _); repeat (first | (with_reducible exact ex_refl _) | (with_reducible assumption) | (with_reducible refine ex_drewL ?_) | (with_reducible refine ex_appR ?_ _) | (with_reducible refine ex_wx ?_ _) | (with_reducible refine ex_drew ?_) | (with_reducible refine ex_alloc ?_ _))) hown; clear hA2))
  go_ret
  refine ⟨_, rfl, ?_, (by (try show Ex _ _); repeat (first | (with_reducible exact ex_refl _) | (with_reducible assumption) | (with_reducible refine ex_drewL ?_) | (with_reducible refine ex_appR ?_ _) | (with_reducible refine ex_wx ?_ _) | (with_reducible refine ex_drew ?_) | (with_reducible refine ex_alloc ?_ _)))⟩
  simpa using hown2
set_option maxHeartbeats 2000000 in
theorem sameE_any (l m : List En) (v u : Value) (w : World) (hs : SlG w v l) (ht : SlG w u m) :
    Calls Tryd.prog 42 #[v, u] w (Post w (.bool (decide (l = m)))) := by
  obtain ⟨a, c, rfl, hc, hcm, _, hs⟩ := hs.out
  obtain ⟨b, d, rfl, hd, hdm, _, ht⟩ := ht.out
  by_cases hlm : l.length = m.length
  · have HS : Hid (∀ W, Ex w W → ∀ i, i < m.length → ∃ g off da dc, a = some ⟨g, off, none⟩ ∧ g < W.heap.size ∧ W.cell? ⟨g, off + i * 3, none⟩ = some (L (enAt l i).1) ∧ W.cell? ⟨g, off + i * 3 + 1, none⟩ = some (I (enAt l i).2.1) ∧
      W.cell? ⟨g, off + i * 3 + 2, none⟩ = some (.slice da (enAt l i).2.2.length dc) ∧ SlT W (.slice da (enAt l i).2.2.length dc) (enAt l i).2.2) := Lib.hid fun W k i hi => (hs.ex k).row (by omega)
    have HT : Hid (∀ W, Ex w W → ∀ i, i < m.length → ∃ g off da dc, b = some ⟨g, off, none⟩ ∧ g < W.heap.size ∧ W.cell? ⟨g, off + i * 3, none⟩ = some (L (enAt m i).1) ∧ W.cell? ⟨g, off + i * 3 + 1, none⟩ = some (I (enAt m i).2.1) ∧
      W.cell? ⟨g, off + i * 3 + 2, none⟩ = some (.slice da (enAt m i).2.2.length dc) ∧ SlT W (.slice da (enAt m i).2.2.length dc) (enAt m i).2.2) := Lib.hid fun W k i hi => (ht.ex k).row hi
    have H1 : Hid ((∀ i, i < m.length → enAt l i = enAt m i) → decide (l = m) = true) := Lib.hid fun h => decide_eq_true (enAt_ext hlm (by rw [hlm]; exact h))
    have H0 : Hid (∀ i, i < m.length → enAt l i ≠ enAt m i → decide (l = m) = false) := Lib.hid fun i hi h => decide_eq_false fun e => h (by rw [e])
    rw [hlm] at hc ⊢
    generalize decide (l = m) = ov at H0 H1 ⊢
    generalize m.length = n at *
    generalize enAt l = p at HS H0 H1
    generalize enAt m = q at HT H0 H1
    clear hlm hs ht
    unfold maxLen at hcm hdm
    go_enter Tryd.func42, Tryd.ntmps42
    go_wp2
    go_loopw [15] (fun i wr => ∃ k : Nat, k ≤ n ∧ i = I k ∧ Hid (∀ i, i < k → p i = q i) ∧ Ex w wr) (fun i _ => n - (intOf i).toNat)
    case atStart => exact ⟨0, by omega, rfl, Lib.hid (fun i hi => absurd hi (by omega)), (by (try show Ex _ _); repeat (first | (with_reducible exact ex_refl _) | (with_reducible assumption) | (with_reducible refine ex_drewL ?_) | (with_reducible refine ex_appR ?_ _) | (with_reducible refine ex_wx ?_ _) | (with_reducible refine ex_drew ?_) | (with_reducible refine ex_alloc ?_ _)))⟩
    case round =>
      obtain ⟨k, hk, rfl, HQ, X9, rfl⟩ := hrel
      by_cases hlt : k < n
      · obtain ⟨g, off, da, dc, rfl, hg, x0, x1, x2, x3⟩ := HS.out _ ⟨X9, rfl⟩ k hlt
        obtain ⟨g', off', ea, ec, rfl, hg', y0, y1, y2, y3⟩ := HT.out _ ⟨X9, rfl⟩ k hlt
        have H0' := Lib.hid (H0.out k hlt)
        have hBe : Hid (∀ i, i < k + 1 → i < k ∨ i = k) := Lib.hid fun i h => by omega
        clear HS HT H0 H1
        generalize hp : p k = x at *
        generalize hq : q k = y at *
        replace hp := Lib.hid hp
        replace hq := Lib.hid hq
        obtain ⟨xa, xb, xc⟩ := x
        obtain ⟨ya, yb, yc⟩ := y
        simp only at x0 x1 x2 x3 y0 y1 y2 y3
        have HSa := Lib.hid (fun w' (kx : Ex (wx w X9) w') => sameL_any xc yc _ _ w' (x3.ex kx) (y3.ex kx))
        have HE1 : Hid (xa = ya → xb = yb → decide (xc = yc) = true → ((xa, xb, xc) : En) = (ya, yb, yc)) := Lib.hid fun h1 h2 h3 => by rw [h1, h2, of_decide_eq_true h3]
        have HE2 : Hid (decide (xc = yc) = false → ((xa, xb, xc) : En) ≠ (ya, yb, yc)) := Lib.hid fun h h2 => by
          have : xc = yc := by simpa using congrArg (fun t => t.2.2) h2
          rw [decide_eq_true this] at h; cases h
        have HE3 : Hid (xa ≠ ya → ((xa, xb, xc) : En) ≠ (ya, yb, yc)) := Lib.hid fun h h2 => h (congrArg (fun t => t.1) h2)
        have HE4 : Hid (xb ≠ yb → ((xa, xb, xc) : En) ≠ (ya, yb, yc)) := Lib.hid fun h h2 => h (congrArg (fun t => t.2.1) h2)
        clear x3 y3
        generalize decide (xc = yc) = sb at *
        generalize xc.length = xl at *
        generalize yc.length = yl at *
        have hl1 : (ln xa == ln ya) = decide (xa = ya) := ln_beq xa ya
        by_cases ha : xa = ya
        · by_cases hb : xb = yb
          · subst ha
            subst hb
            clear hl1
            cases sb with
            | true =>
              have hxy := HE1.out rfl rfl rfl
              clear HE1 HE2 HE3 HE4 H0'
              go_wp2_with (go_at_call 10; (with_reducible refine (HSa.out _ (by (try show Ex _ _); repeat (first | (with_reducible exact ex_refl _) | (with_reducible assumption) | (with_reducible refine ex_drewL ?_) | (with_reducible refine ex_appR ?_ _) | (with_reducible refine ex_wx ?_ _) | (with_reducible refine ex_drew ?_) | (with_reducible refine ex_alloc ?_ _)))).mono ?_); rintro e w2 ⟨rfl, X, rfl⟩)
              refine ⟨⟨k + 1, by omega, by go_num, Lib.hid fun i hi => ?_, (by (try show Ex _ _); repeat (first | (with_reducible exact ex_refl _) | (with_reducible assumption) | (with_reducible refine ex_drewL ?_) | (with_reducible refine ex_appR ?_ _) | (with_reducible refine ex_wx ?_ _) | (with_reducible refine ex_drew ?_) | (with_reducible refine ex_alloc ?_ _)))⟩, by simp [intOf]; omega⟩
              rcases hBe.out i hi with h9 | rfl
              · exact HQ.out i h9
              · rw [hp.out, hq.out, hxy]
            | false =>
              have ho : ov = false := H0'.out (HE2.out rfl)
              subst ho
              clear HE1 HE2 HE3 HE4 H0'
              go_wp2_with (go_at_call 10; (with_reducible refine (HSa.out _ (by (try show Ex _ _); repeat (first | (with_reducible exact ex_refl _) | (with_reducible assumption) | (with_reducible refine ex_drewL ?_) | (with_reducible refine ex_appR ?_ _) | (with_reducible refine ex_wx ?_ _) | (with_reducible refine ex_drew ?_) | (with_reducible refine ex_alloc ?_ _)))).mono ?_); rintro e w2 ⟨rfl, X, rfl⟩)
              go_ret
              exact post_mk rfl (by (try show Ex _ _); repeat (first | (with_reducible exact ex_refl _) | (with_reducible assumption) | (with_reducible refine ex_drewL ?_) | (with_reducible refine ex_appR ?_ _) | (with_reducible refine ex_wx ?_ _) | (with_reducible refine ex_drew ?_) | (with_reducible refine ex_alloc ?_ _)))
          · have ho : ov = false := H0'.out (HE4.out hb)
            subst ho
            subst ha
            have hb1 : (xb == yb) = false := beq_eq_false_iff_ne.2 hb
            clear HE1 HE2 HE3 HE4 H0' hl1
            go_wp2
            go_ret
            exact post_mk rfl (by (try show Ex _ _); repeat (first | (with_reducible exact ex_refl _) | (with_reducible assumption) | (with_reducible refine ex_drewL ?_) | (with_reducible refine ex_appR ?_ _) | (with_reducible refine ex_wx ?_ _) | (with_reducible refine ex_drew ?_) | (with_reducible refine ex_alloc ?_ _)))
        · have ho : ov = false := H0'.out (HE3.out ha)
          subst ho
          rw [decide_eq_false ha] at hl1
          have hl2 : ¬ ln xa = ln ya := fun h => ha (ln_inj h)
          clear HE1 HE2 HE3 HE4 H0' ha
          go_wp2
          go_ret
          exact post_mk rfl (by (try show Ex _ _); repeat (first | (with_reducible exact ex_refl _) | (with_reducible assumption) | (with_reducible refine ex_drewL ?_) | (with_reducible refine ex_appR ?_ _) | (with_reducible refine ex_wx ?_ _) | (with_reducible refine ex_drew ?_) | (with_reducible refine ex_alloc ?_ _)))
      · obtain rfl : k = n := by omega
        have ho : ov = true := H1.out HQ.out
        subst ho
        clear HS HT H0 H1 hlt hk
        go_wp2
        go_ret
        exact post_mk rfl (by (try show Ex _ _); repeat (first | (with_reducible exact ex_refl _) | (with_reducible assumption) | (with_reducible refine ex_drewL ?_) | (with_reducible refine ex_appR ?_ _) | (with_reducible refine ex_wx ?_ _) | (with_reducible refine ex_drew ?_) | (with_reducible refine ex_alloc ?_ _)))
  · have ho : decide (l = m) = false := decide_eq_false fun h => hlm (by rw [h])
    rw [ho]
    clear ho hs ht
    have e1 : ((l.length : Int) == m.length) = false := beq_eq_false_iff_ne.2 (by omega)
    generalize l.length = n1 at *
    generalize m.length = n2 at *
    have e2 : ¬ (n1 : Int) = n2 := by omega
    go_enter Tryd.func42, Tryd.ntmps42
    go_wp2
    go_ret
    exact post_mk rfl (by (try show Ex _ _); repeat (first | (with_reducible exact ex_refl _) | (with_reducible assumption) | (with_reducible refine ex_drewL ?_) | (with_reducible refine ex_appR ?_ _) | (with_reducible refine ex_wx ?_ _) | (with_reducible refine ex_drew ?_) | (with_reducible refine ex_alloc ?_ _)))
end Go.Proofs.YtpcfkjeikhehaaaDoor
