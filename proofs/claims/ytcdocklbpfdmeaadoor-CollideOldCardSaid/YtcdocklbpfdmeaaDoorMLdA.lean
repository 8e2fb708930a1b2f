import Derived.Test.YtcdocklbpfdmeaaDoorMForkJ
import Derived.Test.YtcdocklbpfdmeaaDoorMGoto
import Derived.Test.YtcdocklbpfdmeaaDoorMBits

/- CollideLeaf: what an accepted claim tells; history.Leaf of whatever bytes. -/
set_option linter.unusedSimpArgs false
set_option linter.unusedVariables false
set_option linter.unnecessarySimpa false
set_option maxRecDepth 20000
namespace Go.Proofs.YtcdocklbpfdmeaaDoor
open Go.RowKit
theorem leafT_any {v : Value} {l : List UInt8} (hl : l.length ≤ 100000) (w : World) (hv : SlT w v l) (G : Glob w) :
    Calls Tryd.prog 47 #[v] w (Post w (.agg (rowB 32 (dF (leafD l))))) := by
  obtain ⟨a, c, rfl, h1, h2, h3, h4⟩ := hv.out
  cases a with
  | none =>
    obtain rfl := h3 rfl
    obtain rfl : l = [] := List.eq_nil_of_length_eq_zero (by omega)
    rw [List.length_nil]
    go_enter Tryd.func47, Tryd.ntmps47
    go_wp2_with (go_at_call 84; refine (sum_slt G (by (try show Ex _ _); repeat (first | (with_reducible exact ex_refl _) | (with_reducible assumption) | (with_reducible refine ex_drewL ?_) | (with_reducible refine ex_appR ?_ _) | (with_reducible refine ex_wx ?_ _) | (with_reducible refine ex_drew ?_) | (with_reducible refine ex_alloc ?_ _))) (owns_slt (owns_one (Z := (w.alloc (.cells (rowB 32 fun _ => 0) 46)).heap.size) 0 (by (try show Ex _ _); repeat (first | (with_reducible exact ex_refl _) | (with_reducible assumption) | (with_reducible refine ex_drewL ?_) | (with_reducible refine ex_appR ?_ _) | (with_reducible refine ex_wx ?_ _) | (with_reducible refine ex_drew ?_) | (with_reducible refine ex_alloc ?_ _))) (by simp [go_sem]) (by rfl) (by simp [go_sem]))) (by simp)).mono ?_; rintro e w2 ⟨rfl, X, rfl⟩)
    exact ret_row (cs := rowB 32 (dF (leafD []))) Tryd.results47 Tryd.underlying46 rfl info_id rfl (by simp [go_sem]; unfold leafD; simp) rfl (post_mk rfl (by (try show Ex _ _); repeat (first | (with_reducible exact ex_refl _) | (with_reducible assumption) | (with_reducible refine ex_drewL ?_) | (with_reducible refine ex_appR ?_ _) | (with_reducible refine ex_wx ?_ _) | (with_reducible refine ex_drew ?_) | (with_reducible refine ex_alloc ?_ _))))
  | some ad => exact leaf_any hl w ⟨_, _, rfl, h1, h2, h4⟩ G
/-- A clash of short bytes. -/
def ShortC (c : Cl) : Prop := ∀ x, c = some x → x.1.length ≤ 1000 ∧ x.2.length ≤ 1000
theorem putC_short {S : List UInt8 → Dg} {a b : List UInt8} {c : Cl} (h : ShortC c) (ha : a.length ≤ 1000) (hb : b.length ≤ 1000) : ShortC (putC S a b c).2 := by
  unfold putC
  by_cases hc : c = none ∧ a ≠ b ∧ S a = S b
  · simp only [if_pos hc]
    intro x hx
    obtain rfl := Option.some.inj hx
    exact ⟨ha, hb⟩
  · simp only [if_neg hc]; exact h
theorem twoL_le (a b : Dg) : (twoL a b).length ≤ 1000 := by rw [twoL_len]; omega
theorem climbC_short {S : List UInt8 → Dg} (N : Nat) : ∀ (l : List (List UInt8)) (i : Nat) (b : List UInt8) (path : List Dg) (c : Cl) (x : Dg × Cl), l.length = N → ShortL l → b.length ≤ 90 → climbC S l i b path c = some x → ShortC c → ShortC x.2 := by
  induction N using Nat.strongRecOn with
  | _ N ih =>
    intro l i b path c x hN hl hb h hc
    by_cases h2 : l.length < 2
    · rw [climbC_one h2] at h
      split at h
      · obtain rfl := Option.some.inj h
        refine putC_short hc (by simp; omega) ?_
        cases l with
        | nil => simp
        | cons a t =>
          have := hl a (List.mem_cons_self ..)
          simp; omega
      · cases h
    · have h1 := split_lt (n := l.length) (by omega)
      have h3 := split_pos l.length
      rcases snoc_cases path with rfl | ⟨r, p, rfl⟩
      · rw [climbC_nil (by omega)] at h; cases h
      · by_cases hi : i < splitN l.length
        · rw [climbC_lo (by omega) hi] at h
          obtain ⟨y, hy, rfl⟩ := Option.map_eq_some_iff.1 h
          exact putC_short (ih _ (by rw [← hN, List.length_take]; omega) _ _ _ _ _ _ rfl (fun b hb => hl b (List.mem_of_mem_take hb)) hb hy hc) (twoL_le _ _) (twoL_le _ _)
        · rw [climbC_hi (by omega) hi] at h
          obtain ⟨y, hy, rfl⟩ := Option.map_eq_some_iff.1 h
          exact putC_short (ih _ (by rw [← hN, List.length_drop]; omega) _ _ _ _ _ _ rfl (fun b hb => hl b (List.mem_of_mem_drop hb)) hb hy hc) (twoL_le _ _) (twoL_le _ _)
/-- A told clash is one, and the claim was accepted. -/
theorem inclT_is {W : Int} {l : List (List UInt8)} {i : Int} {b : List UInt8} {path : List Dg} {x : List UInt8 × List UInt8} (hl : ShortL l) (hb : b.length ≤ 90) (h : inclT W l i b path = some x) : (inclC W l i b path).1 = true ∧ isC W x.1 x.2 = true ∧ x.1.length ≤ 1000 ∧ x.2.length ≤ 1000 := by
  have ht : (inclC W l i b path).1 = true ∧ (inclC W l i b path).2 = some x := by
    unfold inclT tellC at h
    split at h
    · rename_i hh
      exact ⟨(Bool.and_eq_true_iff.1 hh).1, h⟩
    · cases h
  obtain ⟨h1, h2⟩ := ht
  obtain ⟨g1, g2, g3, g4, g5⟩ := incl_true h1
  refine ⟨h1, ?_⟩
  unfold inclC at h2
  rw [if_pos ⟨g1, g2, g3, g4, g5⟩] at h2
  cases hc : climbC (sumW W.toNat) l i.toNat b path none with
  | none => rw [hc] at h2; cases h2
  | some y =>
    rw [hc] at h2
    have hy : y.2 = some x := h2
    have a1 := climbC_good _ _ _ _ _ _ _ rfl hc goodC_none x hy
    have a2 := climbC_short _ _ _ _ _ _ _ rfl hl hb hc (fun _ h => by cases h) x hy
    refine ⟨?_, a2⟩
    unfold isC
    rw [show wideB W = true from decide_eq_true ⟨g4, g5⟩, decide_eq_false a1.1, decide_eq_true a1.2]
    rfl
/-- What is accepted without a clash is so. -/
theorem incl_so {W : Int} {l : List (List UInt8)} {i : Int} {b : List UInt8} {path : List Dg} (h : (inclC W l i b path).1 = true) (ht : inclT W l i b path = none) : 0 ≤ i ∧ i < l.length ∧ l[i.toNat]? = some b := by
  obtain ⟨g1, g2, g3, g4, g5⟩ := incl_true h
  refine ⟨g2, g3, ?_⟩
  have hi : i.toNat < l.length := by omega
  by_cases hb : b = l.getD i.toNat []
  · rw [hb, List.getD_eq_getElem?_getD, List.getElem?_eq_getElem hi]; rfl
  · unfold inclT tellC at ht
    rw [h, decide_eq_false hb] at ht
    have ht : (inclC W l i b path).2 = none := ht
    unfold inclC at h ht
    rw [if_pos ⟨g1, g2, g3, g4, g5⟩] at h ht
    cases hc : climbC (sumW W.toNat) l i.toNat b path none with
    | none => rw [hc] at h; cases h
    | some y =>
      obtain ⟨y, c⟩ := y
      rw [hc] at h ht
      obtain rfl : c = none := ht
      exact climbC_so _ _ _ _ _ _ _ rfl hi hc (of_decide_eq_true h)
/-- By the whole width it is the history's. -/
theorem incl_hist {l : List (List UInt8)} (hl : l.length ≤ 1024) (i : Int) (b : List UInt8) (path : List Dg) : (inclC 256 l i b path).1 = decide (ClimbD l.length i (leafD b) path = some (rootD (l.map leafD))) := by
  unfold inclC ClimbD
  by_cases h : 0 ≤ i ∧ i < l.length
  · rw [if_pos ⟨hl, h.1, h.2, by decide, by decide⟩, if_pos (show climbOk l.length i = true from decide_eq_true (by omega))]
    have h1 := climbC_climb l.length l i.toNat b path none rfl (by omega)
    rw [show (256 : Int).toNat = 256 from rfl, sumW_full (Nat.le_refl _), Int.toNat_natCast, ← h1, rootC_root]
    cases climbC sumD l i.toNat b path none with
    | none => rfl
    | some y => simp [outC]
  · rw [if_neg (by rintro ⟨_, h1, h2, _⟩; exact h ⟨h1, h2⟩), if_neg (by rw [show climbOk l.length i = false from decide_eq_false (by omega)]; decide)]
    rfl
theorem incl_path {l : List (List UInt8)} (hl : l.length ≤ 1024) {i : Nat} {b : List UInt8} (h : l[i]? = some b) : (inclC 256 l i b (pathD (l.map leafD) i)).1 = true := by
  have hi := (List.getElem?_eq_some_iff.1 h).1
  rw [incl_hist hl]
  refine decide_eq_true ?_
  unfold ClimbD
  rw [if_pos (show climbOk l.length i = true from decide_eq_true (by omega)), Int.toNat_natCast, Int.toNat_natCast]
  have := climb_path _ (l.map leafD) i (leafD b) rfl (by rw [List.getElem?_map, h]; rfl)
  rwa [List.length_map] at this
end Go.Proofs.YtcdocklbpfdmeaaDoor
