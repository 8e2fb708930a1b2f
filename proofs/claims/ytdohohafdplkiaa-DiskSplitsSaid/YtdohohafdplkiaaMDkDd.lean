import Derived.Test.YtdohohafdplkiaaMDkDc
import Derived.Test.YtdohohafdplkiaaMDkUl

/- The document's disk: Done. -/
set_option linter.unusedSimpArgs false
set_option linter.unusedVariables false
set_option maxRecDepth 20000
namespace Go.Proofs.Ytdohohafdplkiaa
open Go.RowKit
theorem own_atBo {w : World} {Z g n cap : Nat} {l : List Bool} (h : w.ownsRow Z 4 1 (.slice (some ⟨g, 0, none⟩) n cap) n (l.flatMap KBo)) {i : Nat} {a : Bool} (hi : l[i]? = some a) :
    w.cell? ⟨g, i, none⟩ = some (.bool a) ∧ w.frozen? ⟨g, i, none⟩ = false ∧ Z ≤ g ∧ g < w.heap.size := by
  obtain ⟨h1, h2, h3⟩ := own_at KBo_len h hi
  have h4 := (cellsN_some.1 h1).2 0 (by omega)
  have h5 := frozenN_false.1 h2 0 (by omega)
  rw [Nat.mul_one, Nat.add_zero] at h4 h5
  exact ⟨h4, h5, h3⟩
theorem own_setBo {w : World} {Z g n cap : Nat} {l : List Bool} (h : w.ownsRow Z 4 1 (.slice (some ⟨g, 0, none⟩) n cap) n (l.flatMap KBo)) {i : Nat} (a : Bool) (hi : i < l.length) :
    (w.setCell ⟨g, i, none⟩ (.bool a)).ownsRow Z 4 1 (.slice (some ⟨g, 0, none⟩) n cap) n ((l.set i a).flatMap KBo) ∧ Below Z w (w.setCell ⟨g, i, none⟩ (.bool a)) := by
  have := own_set KBo_len (by omega) h a hi
  rwa [Nat.mul_one] at this
/-- n bools, told by their places. -/
def dL (n : Nat) (f : Nat → Bool) : List Bool := (List.range n).map f
theorem dL_len (n : Nat) (f : Nat → Bool) : (dL n f).length = n := by simp [dL]
theorem dL_get (n : Nat) (f : Nat → Bool) {i : Nat} (h : i < n) : (dL n f)[i]? = some (f i) := by simp [dL, h]
theorem dL_congr {n : Nat} {f g : Nat → Bool} (h : ∀ i, i < n → f i = g i) : dL n f = dL n g := List.map_congr_left fun i hi => h i (List.mem_range.1 hi)
theorem dL_set (n : Nat) (f : Nat → Bool) {k : Nat} (h : k < n) : (dL n f).set k true = dL n (fun i => f i || decide (i = k)) := by
  apply List.ext_getElem?
  intro j
  by_cases hj : j = k
  · subst hj
    rw [List.getElem?_set_self (by rw [dL_len]; exact h), dL_get _ _ h]; simp
  · rw [List.getElem?_set_ne (Ne.symm hj)]
    rcases Nat.lt_or_ge j n with h1 | h1
    · rw [dL_get _ _ h1, dL_get _ _ h1]; simp [hj]
    · rw [List.getElem?_eq_none (by rw [dL_len]; exact h1), List.getElem?_eq_none (by rw [dL_len]; exact h1)]
def OwnN (w : World) (Z g n : Nat) (f : Nat → Bool) : Prop := w.ownsRow Z 4 1 (.slice (some ⟨g, 0, none⟩) n n) n ((dL n f).flatMap KBo)
theorem OwnN.ex {w w' : World} {Z g n : Nat} {f : Nat → Bool} (h : OwnN w Z g n f) (k : Ex w w') : OwnN w' Z g n f := owns_ex h k
theorem OwnN.congr {w : World} {Z g n : Nat} {f f' : Nat → Bool} (h : OwnN w Z g n f) (e : ∀ i, i < n → f i = f' i) : OwnN w Z g n f' := by unfold OwnN; rw [← dL_congr e]; exact h
theorem OwnN.at {w : World} {Z g n : Nat} {f : Nat → Bool} (h : OwnN w Z g n f) {i : Nat} (hi : i < n) : w.cell? ⟨g, i, none⟩ = some (.bool (f i)) ∧ w.frozen? ⟨g, i, none⟩ = false ∧ Z ≤ g ∧ g < w.heap.size := own_atBo h (dL_get n f hi)
theorem OwnN.set {w : World} {Z g n : Nat} {f : Nat → Bool} (h : OwnN w Z g n f) {k : Nat} (hk : k < n) : OwnN (w.setCell ⟨g, k, none⟩ (.bool true)) Z g n (fun i => f i || decide (i = k)) ∧ Below Z w (w.setCell ⟨g, k, none⟩ (.bool true)) := by
  have := own_setBo h true (i := k) (by rw [dL_len]; exact hk)
  rw [dL_set n f hk] at this
  exact this
theorem OwnN.read {w : World} {Z g n : Nat} {f : Nat → Bool} (h : OwnN w Z g n f) : SlV1 KBo 1 w (.slice (some ⟨g, 0, none⟩) n n) (dL n f) := by
  have := SlV1.of_own (K := KBo) KBo_len (by omega) (l := dL n f) (w := w) (Z := Z) (t := 4) (v := .slice (some ⟨g, 0, none⟩) n n) (by rw [dL_len]; exact h)
  exact this
theorem repB_dL (n : Nat) : (repB n 0).toList = (dL n fun _ => false).flatMap KBo := by
  unfold repB dL
  rw [List.toList_toArray]
  congr 1
  rw [Nat.zero_min, List.replicate_zero, List.nil_append, Nat.sub_zero]
  apply List.ext_getElem?
  intro i
  rw [List.getElem?_replicate, List.getElem?_map]
  by_cases h : i < n
  · rw [if_pos h, List.getElem?_range h]; rfl
  · rw [if_neg h, List.getElem?_eq_none (by simp; omega)]; rfl
theorem ownN_new {w w' : World} {n : Nat} (hn : n ≤ 1000000) (k : Ex (w.alloc (.cells (repB n 0) 4)) w') : OwnN w' w.heap.size w.heap.size n (fun _ => false) := by
  refine owns_ex (owns_new rfl (Nat.le_refl _) (Nat.le_refl _) (by unfold maxLen; omega) (by simp) ?_) k
  rw [repB_dL, List.take_of_length_le]
  rw [flat_len KBo_len, dL_len]; exact Nat.le_refl _
/-- Which writes of a queue a crash does, told by the first p places. -/
def doneN (keep : List Bool) (p k : Nat) : Bool := (List.range p).any fun q => keptL keep q && (decide (k = q) || decide (k + 4 ≤ q))
theorem doneN_no {keep : List Bool} {p : Nat} (h : keptL keep p = false) (k : Nat) : doneN keep (p + 1) k = doneN keep p k := by
  unfold doneN; rw [List.range_succ, List.any_append]; simp [h]
theorem doneN_yes {keep : List Bool} {p : Nat} (h : keptL keep p = true) (k : Nat) : doneN keep (p + 1) k = (doneN keep p k || decide (k = p) || decide (k < p - 3)) := by
  unfold doneN; rw [List.range_succ, List.any_append, List.any_cons, List.any_nil, h, Bool.true_and, Bool.or_false, Bool.or_assoc]
  congr 2
  simp; omega
theorem doneN_lives {keep : List Bool} {n k : Nat} (hk : k < n) : doneN keep n k = livesK keep n k := by
  rw [Bool.eq_iff_iff, lives_iff keep n k hk]
  unfold doneN
  rw [List.any_eq_true]
  constructor
  · rintro ⟨q, h1, h2⟩
    simp only [Bool.and_eq_true, Bool.or_eq_true, decide_eq_true_eq] at h2
    exact ⟨q, List.mem_range.1 h1, h2.1, h2.2⟩
  · rintro ⟨q, h1, h2, h3⟩
    refine ⟨q, List.mem_range.2 h1, ?_⟩
    simp only [Bool.and_eq_true, Bool.or_eq_true, decide_eq_true_eq]
    exact ⟨h2, h3⟩
set_option maxHeartbeats 2000000 in
theorem done_doc {w : World} (n : Nat) (hn : n ≤ 1000000) {kv : Value} {keep : List Bool} (hs : SlV1 KBo 1 w kv keep) :
    Calls Try.prog 55 #[I n, kv] w fun e w' => ∃ g, e = .returned (.slice (some ⟨g, 0, none⟩) n n) ∧ OwnN w' w.heap.size g n (livesK keep n) ∧ Ex w w' := by
  obtain ⟨a, c, rfl, c1, c2, c3, hk⟩ := id hs.out
  obtain ⟨m, hm⟩ : ∃ m, keep.length = m := ⟨_, rfl⟩
  rw [hm] at c1 ⊢
  have HK := Lib.hid hk
  have HM := Lib.hid hm
  clear hs hk hm
  unfold maxLen at c2
  go_enter Try.func55, Try.ntmps55
  go_wp2
  obtain ⟨g, hg⟩ : ∃ g, w.heap.size = g := ⟨_, rfl⟩
  have H0 := Lib.hid (ownN_new (w := w) hn (ex_refl _))
  rw [hg] at H0 ⊢
  replace hg := Lib.hid hg
  go_loopw [11] (fun i W => ∃ p : Nat, p ≤ n ∧ i = I p ∧ Hid (OwnN W g g n (doneN keep p)) ∧ Hid (Ex w W)) (fun i _ => n - (intOf i).toNat)
  case atStart => exact ⟨0, by omega, rfl, H0, Lib.hid (by (try show Ex _ _); repeat (first | (with_reducible exact ex_refl _) | (with_reducible assumption) | (with_reducible refine ex_drewL ?_) | (with_reducible refine ex_appR ?_ _) | (with_reducible refine ex_wx ?_ _) | (with_reducible refine ex_drew ?_) | (with_reducible refine ex_alloc ?_ _)))⟩
  case round =>
    obtain ⟨p, hp, rfl, hO, hX⟩ := hrel
    by_cases hlt : p < n
    · have hlt2 : (p : Int) < n := by omega
      by_cases hkp : p < m
      · have hkp2 : (p : Int) < m := by omega
        obtain ⟨g2, off, rfl, z2, cc⟩ := (HK.out.ex hX.out).bool (k := p) (by rw [HM.out]; exact hkp)
        cases hb : keptL keep p with
        | false =>
          rw [hb] at cc
          have hO2 : Hid (OwnN wr g g n (doneN keep (p + 1))) := Lib.hid (hO.out.congr fun i _ => (doneN_no hb i).symm)
          clear hb
          go_wp2
          exact ⟨⟨p + 1, by omega, by go_num, hO2, hX⟩, by simp [intOf]; omega⟩
        | true =>
          rw [hb] at cc
          have hy := Lib.hid (doneN_yes hb)
          clear hb
          obtain ⟨d1, d2, d3, d4⟩ := hO.out.at hlt
          have hS := hO.out.set hlt
          have hO1 := Lib.hid hS.1
          have hX1 : Hid (Ex w (wr.setCell ⟨g, p, none⟩ (.bool true))) := Lib.hid (ex_of_below ((ex_below hX.out).trans (by rw [hg.out]; exact hS.2)))
          clear hS
          go_wp2
          go_loopw [7] (fun j W => ∃ q : Nat, q ≤ p - 3 ∧ j = I q ∧ Hid (OwnN W g g n (fun i => doneN keep p i || decide (i = p) || decide (i < q))) ∧ Hid (Ex w W)) (fun j _ => p - (intOf j).toNat)
          case atStart => exact ⟨0, by omega, rfl, Lib.hid (hO1.out.congr fun i _ => by simp), hX1⟩
          case round =>
            obtain ⟨q, hq, rfl, hO3, hX3⟩ := hrel
            by_cases hqp : q + 4 ≤ p
            · have hqp2 : (q : Int) + 4 ≤ p := by omega
              obtain ⟨e1, e2, e3, e4⟩ := hO3.out.at (i := q) (by omega)
              have hS := hO3.out.set (k := q) (by omega)
              have hO4 : Hid (OwnN (wr.setCell ⟨g, q, none⟩ (.bool true)) g g n (fun i => doneN keep p i || decide (i = p) || decide (i < q + 1))) := Lib.hid (hS.1.congr fun i _ => by
                have e : decide (i < q + 1) = (decide (i < q) || decide (i = q)) := by rw [Bool.eq_iff_iff]; simp; omega
                rw [e]
                simp only [Bool.or_assoc])
              have hX4 : Hid (Ex w (wr.setCell ⟨g, q, none⟩ (.bool true))) := Lib.hid (ex_of_below ((ex_below hX3.out).trans (by rw [hg.out]; exact hS.2)))
              have hqn : (q : Int) < n := by omega
              clear hS
              go_wp2
              exact ⟨⟨q + 1, by omega, by go_num, hO4, hX4⟩, by simp [intOf]; omega⟩
            · have hqe : q = p - 3 := by omega
              have hqp2 : ¬ (q : Int) + 4 ≤ p := by omega
              have hO5 : Hid (OwnN wr g g n (doneN keep (p + 1))) := Lib.hid (hO3.out.congr fun i _ => by rw [hy.out, hqe])
              clear hqe
              go_wp2
              exact ⟨⟨p + 1, by omega, by go_num, hO5, hX3⟩, by simp [intOf]; omega⟩
      · have hkp2 : (m : Int) ≤ p := by omega
        have hb : keptL keep p = false := by
          cases h : keptL keep p with
          | false => rfl
          | true => have := kept_lt h; have := HM.out; omega
        have hO2 : Hid (OwnN wr g g n (doneN keep (p + 1))) := Lib.hid (hO.out.congr fun i _ => (doneN_no hb i).symm)
        clear hb
        go_wp2
        exact ⟨⟨p + 1, by omega, by go_num, hO2, hX⟩, by simp [intOf]; omega⟩
    · have hpn : p = n := by omega
      subst p
      go_wp2
      go_ret
      exact ⟨g, rfl, (by rw [hg.out]; exact hO.out.congr fun i hi => doneN_lives hi), hX.out⟩
end Go.Proofs.Ytdohohafdplkiaa
