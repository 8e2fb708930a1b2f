/- A copy of bytes: slices.Clone, few. -/
import Derived.Test.YtbebehcalephfaaDoorSl
import Derived.Test.YtbebehcalephfaaDoorEq
import Derived.Test.YtbebehcalephfaaDoorApp
import Derived.Lib.LazyBuf
set_option linter.unusedSimpArgs false
set_option linter.unusedVariables false
set_option maxRecDepth 20000
namespace Go.Proofs.YtbebehcalephfaaDoor
open Go.RowKit
@[go_sem high] theorem eql_id (f g : Nat → UInt8) (w : World) : (binOp .eql 46 (.agg (rowB 32 f)) (.agg (rowB 32 g))).run Tryd.prog w = .ok (.bool (eqF f g 32)) w := eqlB Tryd.underlying46 Tryd.underlying5 (by kernel_rfl) f g w
@[go_sem high] theorem neq_id (f g : Nat → UInt8) (w : World) : (binOp .neq 46 (.agg (rowB 32 f)) (.agg (rowB 32 g))).run Tryd.prog w = .ok (.bool (!eqF f g 32)) w := neqB Tryd.underlying46 Tryd.underlying5 (by kernel_rfl) f g w
@[go_sem high] theorem eql_a8u (f g : Nat → UInt32) (w : World) : (binOp .eql 23 (.agg (rowU 8 f)) (.agg (rowU 8 g))).run Tryd.prog w = .ok (.bool (eqF f g 8)) w := eqlU Tryd.underlying23 Tryd.underlying22 (by kernel_rfl) f g w
@[go_sem high] theorem neq_a8u (f g : Nat → UInt32) (w : World) : (binOp .neq 23 (.agg (rowU 8 f)) (.agg (rowU 8 g))).run Tryd.prog w = .ok (.bool (!eqF f g 8)) w := neqU Tryd.underlying23 Tryd.underlying22 (by kernel_rfl) f g w
@[go_sem high] theorem eql_a4u (f g : Nat → UInt32) (w : World) : (binOp .eql 31 (.agg (rowU 4 f)) (.agg (rowU 4 g))).run Tryd.prog w = .ok (.bool (eqF f g 4)) w := eqlU Tryd.underlying31 Tryd.underlying22 (by kernel_rfl) f g w
@[go_sem high] theorem neq_a4u (f g : Nat → UInt32) (w : World) : (binOp .neq 31 (.agg (rowU 4 f)) (.agg (rowU 4 g))).run Tryd.prog w = .ok (.bool (!eqF f g 4)) w := neqU Tryd.underlying31 Tryd.underlying22 (by kernel_rfl) f g w
theorem appu8 : AppT Tryd.prog 43 5 1 1 (.int .u8 0) := ⟨Tryd.underlying43, by kernel_rfl, rfl, by decide⟩
@[go_sem] theorem make_u8 (l c : Int) (w : World) : (Instr.makeSlice 43 (.int .i64 l) (.int .i64 c)).run Tryd.prog w = if 0 ≤ l ∧ l ≤ c ∧ c ≤ 281474976710656 then
      .ok (.slice (some ⟨w.heap.size, 0, none⟩) l.toNat c.toNat) (w.alloc (.cells (rowB c.toNat fun _ => 0) 5)) else makeRaw Tryd.prog 43 (.int .i64 l) (.int .i64 c) w := by
  rw [make_rule appu8, manyC_B, Nat.mul_one]
  by_cases h : 0 ≤ l ∧ l ≤ c ∧ c ≤ 281474976710656
  · rw [if_pos h, if_pos ⟨h.1, h.2.1, by omega, by omega⟩]
  · rw [if_neg h, if_neg (by omega)]
@[go_sem high] theorem eqlnil_u8 (a : Option Addr) (n c : Nat) (w : World) : (binOp .eql 43 (.slice a n c) (.slice none 0 0)).run Tryd.prog w = .ok (.bool a.isNone) w := _root_.Go.run_eql_slice_nil w _ _ a n c Tryd.underlying43
@[go_sem high] theorem neqnil_u8 (a : Option Addr) (n c : Nat) (w : World) : (binOp .neq 43 (.slice a n c) (.slice none 0 0)).run Tryd.prog w = .ok (.bool (!a.isNone)) w := _root_.Go.run_neq_slice_nil w _ _ a n c Tryd.underlying43
/-- A slice that was made, with what it holds. -/
def PostSl (W : World) (n : Nat) (f : Nat → UInt8) (e : Ending) (w' : World) : Prop := ∃ a c, e = .returned (.slice a n c) ∧ n ≤ c ∧ c ≤ maxLen ∧ (a = none → c = 0) ∧ SlB w' a n f ∧ ∃ X, w' = wx W X
theorem owns_slb {w : World} {Z : Nat} {v : Value} {n : Nat} {f : Nat → UInt8} (h : w.ownsRow Z 5 1 v n (rowB n f).toList) : ∃ a c, v = .slice a n c ∧ n ≤ c ∧ c ≤ maxLen ∧ (a = none → c = 0) ∧ SlB w a n f := by
  rcases h.2 with ⟨rfl, rfl⟩ | ⟨g, cap, cur, rfl, h1, h2, h3, h4, h5, h6⟩
  · exact ⟨none, 0, rfl, by omega, by unfold maxLen; omega, fun _ => rfl, SlB.zero _ _ _⟩
  · refine ⟨_, cap, rfl, h3, h4, (fun h => by cases h), SlB.mk' (Array.getElem?_eq_some_iff.1 h2).1 fun j hj => ?_⟩
    have := h.cells (g := g) rfl j (B (f j)) (by simp [go_sem, hj])
    have hadd : (⟨g, 0, none⟩ : Addr).add j = ⟨g, 0 + j, none⟩ := by unfold Addr.add; split <;> simp_all
    rwa [hadd] at this
theorem post_sl {W w' : World} {Z : Nat} {v : Value} {n : Nat} {f : Nat → UInt8} (h : w'.ownsRow Z 5 1 v n (rowB n f).toList) (k : Ex W w') : PostSl W n f (.returned v) w' := by
  obtain ⟨a, c, rfl, h1, h2, h2', h3⟩ := owns_slb h
  exact ⟨a, c, rfl, h1, h2, h2', h3, k⟩
theorem slb_news {w w' : World} {g off n : Nat} {f : Nat → UInt8} (hg : g < w.heap.size) (hc : ∀ j, j < n → w.cell? ⟨g, off + j, none⟩ = some (B (f j))) (k : Ex w w') : ∀ (j : Nat) (u : Value), (rowB n f).toList[j]? = some u → w'.cell? ((⟨g, off, none⟩ : Addr).add j) = some u := by
  intro j u hu
  have hadd : (⟨g, off, none⟩ : Addr).add j = ⟨g, off + j, none⟩ := by unfold Addr.add; split <;> simp_all
  obtain ⟨X, rfl⟩ := k
  simp only [Array.getElem?_toList, rowB_get] at hu
  split at hu
  · rename_i hj
    cases hu
    rw [hadd, wx_cell _ _ _ hg, hc j hj]
  · cases hu
set_option maxHeartbeats 1000000 in
theorem clone_any (a : Option Addr) (n c : Nat) (f : Nat → UInt8) (w : World) (hn : n ≤ c) (hc : c ≤ maxLen) (hn47 : n ≤ 140737488355328) (ha : a = none → c = 0) (hs : SlB w a n f) :
    Calls Tryd.prog 36 #[.slice a n c] w (PostSl w n f) := by
  cases a with
  | none =>
    obtain rfl := ha rfl
    obtain rfl : n = 0 := by omega
    go_enter Tryd.func36, Tryd.ntmps36
    go_wp2
    go_ret
    exact post_sl (Z := 0) (f := f) (v := .slice none 0 0) ⟨by simp, Or.inl ⟨rfl, rfl⟩⟩ (by repeat (first | exact ex_refl _ | refine ex_appR ?_ _ | refine ex_wx ?_ _ | refine ex_drew ?_ | refine ex_alloc ?_ _))
  | some ad =>
    have hnews : ∀ (j : Nat) (u : Value), (rowB n f).toList[j]? = some u → (w.alloc (.cells #[] 5)).cell? (ad.add j) = some u := by
      rcases hs.out with h | ⟨g, off, h1, hg, hc2⟩
      · subst h; intro j u hu; simp [rowB] at hu
      · cases h1; exact slb_news hg hc2 (by repeat (first | exact ex_refl _ | refine ex_appR ?_ _ | refine ex_wx ?_ _ | refine ex_drew ?_ | refine ex_alloc ?_ _))
    have HN := Lib.hid hnews
    clear hnews
    go_enter Tryd.func36, Tryd.ntmps36
    go_wp2_with (at_builtin; refine wpApp appu8 _ _ rfl rfl (owns_new (xs := []) (B := w.heap.size) rfl (Nat.le_refl _) (Nat.le_refl 0) (by decide) rfl rfl) rfl ad n c (rowB n f).toList rfl (by simp) HN.out (fun u hu => ?_) (by omega) (by omega) (by simp [go_sem]) (fun v' w1 hown hbe => ?_))
    · exact Array.all_eq_true_iff_forall_mem.1 (rowB_one n f) u (by simpa using hu)
    · rw [Nat.zero_add, List.nil_append] at hown
      go_wp2
      go_ret
      exact post_sl (v := v') hown (ex_of_below ((ex_below (by repeat (first | exact ex_refl _ | refine ex_appR ?_ _ | refine ex_wx ?_ _ | refine ex_drew ?_ | refine ex_alloc ?_ _))).trans hbe))
/-- The first thousand bytes, in memory of their own. -/
theorem few_any (a : Option Addr) (n c : Nat) (f : Nat → UInt8) (w : World) (hn : n ≤ c) (hc : c ≤ maxLen) (ha : a = none → c = 0) (hs : SlB w a n f) :
    Calls Tryd.prog 20 #[.slice a n c] w (PostSl w (min n 1000) f) := by
  unfold maxLen at hc
  cases a with
  | none =>
    obtain rfl := ha rfl
    obtain rfl : n = 0 := by omega
    go_enter Tryd.func20, Tryd.ntmps20
    go_wp2_with (go_at_call 36; refine (clone_any none 0 0 f _ (by omega) (by unfold maxLen; omega) (by omega) (fun _ => rfl) hs).mono ?_; rintro e w' ⟨a', c', rfl, h1, h2, h2', h3, X, rfl⟩)
    go_ret
    exact ⟨a', c', rfl, h1, h2, h2', h3, (by repeat (first | exact ex_refl _ | refine ex_appR ?_ _ | refine ex_wx ?_ _ | refine ex_drew ?_ | refine ex_alloc ?_ _))⟩
  | some ad =>
    clear ha
    by_cases hm : n ≤ 1000
    · have hm2 : (n : Int) ≤ 1000 := by omega
      have HM : Hid (min n 1000 = n) := Lib.hid (by omega)
      go_enter Tryd.func20, Tryd.ntmps20
      go_wp2_with (go_at_call 36; refine (clone_any (some ad) n c f _ hn (by unfold maxLen; omega) (by omega) (fun h => by cases h) hs).mono ?_; rintro e w' ⟨a', c', rfl, h1, h2, h2', h3, X, rfl⟩)
      go_ret
      rw [HM.out]
      exact ⟨a', c', rfl, h1, h2, h2', h3, (by repeat (first | exact ex_refl _ | refine ex_appR ?_ _ | refine ex_wx ?_ _ | refine ex_drew ?_ | refine ex_alloc ?_ _))⟩
    · have hm2 : ¬ (n : Int) ≤ 1000 := by omega
      have hm3 : (1000 : Int) ≤ c := by omega
      have HM : Hid (min n 1000 = 1000) := Lib.hid (by omega)
      have hs2 : SlB w (some ad) 1000 f := by
        obtain ⟨g, off, h1, h2, h3⟩ := hs.pos (by omega)
        exact ⟨Or.inr ⟨g, off, h1, h2, fun j hj => h3 j (by omega)⟩⟩
      go_enter Tryd.func20, Tryd.ntmps20
      go_wp2_with (go_at_call 36; refine (clone_any (some ad) 1000 c f _ (by omega) (by unfold maxLen; omega) (by omega) (fun h => by cases h) hs2).mono ?_; rintro e w' ⟨a', c', rfl, h1, h2, h2', h3, X, rfl⟩)
      go_ret
      rw [HM.out]
      exact ⟨a', c', rfl, h1, h2, h2', h3, (by repeat (first | exact ex_refl _ | refine ex_appR ?_ _ | refine ex_wx ?_ _ | refine ex_drew ?_ | refine ex_alloc ?_ _))⟩
end Go.Proofs.YtbebehcalephfaaDoor
