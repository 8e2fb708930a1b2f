/- wakes of the history: it does something. -/
import Derived.Test.YtbobamifpjlmiaaDoorWakeS
import Derived.Test.YtbobamifpjlmiaaDoorIncl
set_option linter.unusedSimpArgs false
set_option linter.unusedVariables false
set_option maxRecDepth 20000
namespace Go.Proofs.YtbobamifpjlmiaaDoor
open Go.RowKit
@[go_sem] theorem lit_u1 : Value.agg #[.int .u8 1, .int .u8 0, .int .u8 0, .int .u8 0, .int .u8 0, .int .u8 0, .int .u8 0, .int .u8 0, .int .u8 0, .int .u8 0, .int .u8 0, .int .u8 0, .int .u8 0, .int .u8 0, .int .u8 0, .int .u8 0, .int .u8 0, .int .u8 0, .int .u8 0, .int .u8 0, .int .u8 0, .int .u8 0, .int .u8 0, .int .u8 0, .int .u8 0, .int .u8 0, .int .u8 0, .int .u8 0, .int .u8 0, .int .u8 0, .int .u8 0, .int .u8 0] = .agg (rowB 32 (dF (unitD 1))) := by kernel_rfl
@[go_sem] theorem lit_u2 : Value.agg #[.int .u8 2, .int .u8 0, .int .u8 0, .int .u8 0, .int .u8 0, .int .u8 0, .int .u8 0, .int .u8 0, .int .u8 0, .int .u8 0, .int .u8 0, .int .u8 0, .int .u8 0, .int .u8 0, .int .u8 0, .int .u8 0, .int .u8 0, .int .u8 0, .int .u8 0, .int .u8 0, .int .u8 0, .int .u8 0, .int .u8 0, .int .u8 0, .int .u8 0, .int .u8 0, .int .u8 0, .int .u8 0, .int .u8 0, .int .u8 0, .int .u8 0, .int .u8 0] = .agg (rowB 32 (dF (unitD 2))) := by kernel_rfl
@[go_sem] theorem lit_u3 : Value.agg #[.int .u8 3, .int .u8 0, .int .u8 0, .int .u8 0, .int .u8 0, .int .u8 0, .int .u8 0, .int .u8 0, .int .u8 0, .int .u8 0, .int .u8 0, .int .u8 0, .int .u8 0, .int .u8 0, .int .u8 0, .int .u8 0, .int .u8 0, .int .u8 0, .int .u8 0, .int .u8 0, .int .u8 0, .int .u8 0, .int .u8 0, .int .u8 0, .int .u8 0, .int .u8 0, .int .u8 0, .int .u8 0, .int .u8 0, .int .u8 0, .int .u8 0, .int .u8 0] = .agg (rowB 32 (dF (unitD 3))) := by kernel_rfl
def buildRun3 (P : Program) (t : TypeId) (x y z : Value) (w : World) : Result Next := ((Instr.buildSlice t 3 #[(0, x), (1, y), (2, z)]).run P w).andThen fun x w' => .ok (.value x) w'
@[go_sem ↓ high] theorem run_build3_pre {P : Program} (ρ : Operand → Value) (d : Option Tmp) (t : TypeId) (x y z : Operand) (ty : TypeId) (pos : String) (aft : Array Edge) (g : Option (Nat × Bool)) (w : World) :
    Sem.run P (execOp ρ ⟨d, .buildSlice t 3 #[(0, x), (1, y), (2, z)], ty, pos, aft, g⟩) w = buildRun3 P t (ρ x) (ρ y) (ρ z) w := by
  simp only [execOp, Sem.run_bind, Sem.run_pure, buildRun3, List.map_toArray, List.map_cons, List.map_nil]
@[go_sem low] theorem buildRun3_other {P : Program} (t : TypeId) (x y z : Value) (w : World) : buildRun3 P t x y z w = ((Instr.buildSlice t 3 #[(0, x), (1, y), (2, z)]).run P w).andThen fun x w' => .ok (.value x) w' := rfl
def C3 (a b c : Dg) : Array Value := rowB 32 (dF a) ++ rowB 32 (dF b) ++ rowB 32 (dF c)
theorem buildRun3_id (a b c : Dg) (w : World) : buildRun3 Tryd.prog 22 (.agg (rowB 32 (dF a))) (.agg (rowB 32 (dF b))) (.agg (rowB 32 (dF c))) w = .ok (.value (.slice (some ⟨w.heap.size, 0, none⟩) 3 3)) (w.alloc (.cells (C3 a b c) 26)) := by
  unfold buildRun3
  have hi : (Tryd.prog.info? 26).map (fun i => (i.zero, i.size)) = some (some (.agg (rowB 32 fun _ => 0)), 32) := by kernel_rfl
  obtain ⟨i, hi1, hi2⟩ := Option.map_eq_some_iff.1 hi
  simp only [Prod.mk.injEq] at hi2
  simp [Instr.buildSlice, run_underlying Tryd.underlying22, Go.sizeOf, typeInfo, zeroValue, hi1, hi2.1, hi2.2, Instr.fill, Value.cells, newRow, rowB_size]
  generalize hX : (if _ < 64 then none else _) = X
  have hX2 : X = some (C3 a b c) := by
    rw [← hX]; kernel_rfl
  rw [hX2]
  simp [newObj]
  rfl
attribute [go_sem] buildRun3_id
theorem C3_size (a b c : Dg) : (C3 a b c).size = 96 := by simp [C3]
theorem C3_get (a b c : Dg) (j : Nat) : (C3 a b c)[j]? = if j < 32 then some (B (dF a j)) else if j < 64 then some (B (dF b (j - 32))) else if j < 96 then some (B (dF c (j - 64))) else none := by
  unfold C3
  rw [Array.getElem?_append, Array.getElem?_append]
  simp only [Array.size_append, rowB_size, rowB_get]
  by_cases h1 : j < 32
  · rw [if_pos (by omega), if_pos h1, if_pos h1, if_pos h1]
  · by_cases h2 : j < 64
    · rw [if_pos (by omega), if_neg h1, if_pos (by omega), if_neg h1, if_pos h2]
    · rw [if_neg (by omega), if_neg h1, if_neg h2]
      by_cases h3 : j < 96
      · rw [if_pos (by omega), if_pos h3]
      · rw [if_neg (by omega), if_neg h3]
theorem C3_ext0 (a b c : Dg) : (C3 a b c).extract 0 32 = rowB 32 (dF a) := by
  apply arr_ext; intro j
  rw [Array.getElem?_extract, C3_size, C3_get, rowB_get]
  by_cases h : j < 32
  · rw [if_pos (by omega), if_pos (by omega), if_pos h, Nat.zero_add]
  · rw [if_neg (by omega), if_neg h]
theorem C3_ext1 (a b c : Dg) : (C3 a b c).extract 32 64 = rowB 32 (dF b) := by
  apply arr_ext; intro j
  rw [Array.getElem?_extract, C3_size, C3_get, rowB_get]
  by_cases h : j < 32
  · rw [if_pos (by omega), if_neg (by omega), if_pos (by omega), if_pos h, Nat.add_sub_cancel_left]
  · rw [if_neg (by omega), if_neg h]
theorem C3_ext2 (a b c : Dg) : (C3 a b c).extract 64 96 = rowB 32 (dF c) := by
  apply arr_ext; intro j
  rw [Array.getElem?_extract, C3_size, C3_get, rowB_get]
  by_cases h : j < 32
  · rw [if_pos (by omega), if_neg (by omega), if_neg (by omega), if_pos (by omega), if_pos h, Nat.add_sub_cancel_left]
  · rw [if_neg (by omega), if_neg h]
theorem sld_three {w w' : World} (k : Ex (w.alloc (.cells (C3 (unitD 1) (unitD 2) (unitD 3)) 26)) w') : SlD w' (some ⟨w.heap.size, 0, none⟩) three := by
  refine SlD.ex ⟨Or.inr ⟨_, 0, rfl, by simp [go_sem], fun i d hd => ?_⟩⟩ k
  have h3 : i = 0 ∨ i = 1 ∨ i = 2 := by
    have := (List.getElem?_eq_some_iff.1 hd).1
    have h : three.length = 3 := rfl
    omega
  rw [cellsN_alloc, if_neg (by omega), if_pos rfl]
  rcases h3 with rfl | rfl | rfl
  · obtain rfl : unitD 1 = d := by simpa [three] using hd
    rw [if_pos (by rw [C3_size]; omega)]; exact congrArg some (C3_ext0 _ _ _)
  · obtain rfl : unitD 2 = d := by simpa [three] using hd
    rw [if_pos (by rw [C3_size]; omega)]; exact congrArg some (C3_ext1 _ _ _)
  · obtain rfl : unitD 3 = d := by simpa [three] using hd
    rw [if_pos (by rw [C3_size]; omega)]; exact congrArg some (C3_ext2 _ _ _)
/-- Digests that were made, with their number. -/
def PostN (W : World) (n : Nat) (l : List Dg) (e : Ending) (w' : World) : Prop := ∃ pa pc, e = .returned (.tuple #[.slice pa n pc, I 0]) ∧ n ≤ pc ∧ pc ≤ maxLen ∧ (pa = none → pc = 0) ∧ SlD w' pa l ∧ ∃ X, w' = wx W X
theorem postN {W : World} {n : Nat} {l : List Dg} (hn : l.length = n) (e : Ending) (w' : World) (h : PostO2 W l e w') : PostN W n l e w' := by
  obtain ⟨v, rfl, hown, hx⟩ := h
  obtain ⟨a, c, rfl, h1, h2, h3, h4⟩ := hown.slg
  subst hn
  exact ⟨a, c, rfl, h1, h2, h3, h4, hx⟩
set_option maxHeartbeats 8000000 in
theorem wakesH_any (w : World) (G : Glob w) : Calls Tryd.prog 15 #[] w (Post w (.bool true)) := by
  obtain ⟨W1, hW1⟩ : ∃ W1, W1 = w.alloc (.cells (C3 (unitD 1) (unitD 2) (unitD 3)) 26) := ⟨_, rfl⟩
  have G1 : Glob W1 := by rw [hW1]; exact G.ex (by (try show Ex _ _); repeat (first | (with_reducible exact ex_refl _) | (with_reducible assumption) | (with_reducible refine ex_drewL ?_) | (with_reducible refine ex_appR ?_ _) | (with_reducible refine ex_wx ?_ _) | (with_reducible refine ex_drew ?_) | (with_reducible refine ex_alloc ?_ _)))
  have hS : ∀ w', Ex W1 w' → SlD w' (some ⟨w.heap.size, 0, none⟩) three := fun w' k => sld_three (by rw [← hW1]; exact k)
  have HRt : Hid (∀ w', Ex W1 w' → Calls Tryd.prog 17 #[.slice (some ⟨w.heap.size, 0, none⟩) 3 3] w' (Post w' (.tuple #[.agg (rowB 32 (dF (litD r012L))), I 0]))) := Lib.hid fun w' k => by
    have := Root_any three (some ⟨w.heap.size, 0, none⟩) 3 w' (by decide) (by decide) (by decide) (hS w' k) (G1.ex k)
    rwa [three_root] at this
  have HP : Hid (∀ w', Ex W1 w' → Calls Tryd.prog 18 #[.slice (some ⟨w.heap.size, 0, none⟩) 3 3, I 1] w' (PostN w' 2 (pathD three 1))) := Lib.hid fun w' k =>
    (path_in three (some ⟨w.heap.size, 0, none⟩) 3 1 w' (by decide) (by decide) (by decide) (hS w' k) (G1.ex k) (by decide)).mono (postN (by rw [three_path]; rfl))
  have HQ : Hid (∀ w', Ex W1 w' → Calls Tryd.prog 19 #[.slice (some ⟨w.heap.size, 0, none⟩) 3 3, I 2] w' (PostN w' 1 (proofD three 2 true))) := Lib.hid fun w' k =>
    (proof_in three (some ⟨w.heap.size, 0, none⟩) 3 2 w' (by decide) (by decide) (by decide) (hS w' k) (G1.ex k) (by decide) (by decide)).mono (postN three_proof)
  have HN1 : Hid (∀ w', Ex W1 w' → Calls Tryd.prog 24 #[.agg (rowB 32 (dF (unitD 1))), .agg (rowB 32 (dF (unitD 2)))] w' (Post w' (.agg (rowB 32 (dF (litD n01L)))))) := Lib.hid fun w' k => by
    have := node_any G1 (unitD 1) (unitD 2) w' k
    rwa [n01_lit] at this
  have HN2 : Hid (∀ w', Ex W1 w' → Calls Tryd.prog 24 #[.agg (rowB 32 (dF (litD n01L))), .agg (rowB 32 (dF (unitD 3)))] w' (Post w' (.agg (rowB 32 (dF (litD r012L)))))) := Lib.hid fun w' k => by
    have := node_any G1 (litD n01L) (unitD 3) w' k
    rwa [r012_lit] at this
  have HI1 : Hid (∀ w' pa pc, Ex W1 w' → 2 ≤ pc → pc ≤ maxLen → SlD w' pa (pathD three 1) → Calls Tryd.prog 32 #[.agg (rowB 32 (dF (litD r012L))), I 3, I 1, .agg (rowB 32 (dF (unitD 2))), .slice pa 2 pc] w' (Post w' (.bool true))) := Lib.hid fun w' pa pc k h1 h2 h3 => by
    have hl : (pathD three 1).length = 2 := by rw [three_path]; rfl
    have := includes_any G1 (litD r012L) 3 1 (unitD 2) (pathD three 1) pa pc w' k (by rw [hl]; exact h1) h2 h3
    rw [hl] at this
    rwa [show decide (ClimbD 3 1 (unitD 2) (pathD three 1) = some (litD r012L)) = true from decide_eq_true three_climb] at this
  have HI2 : Hid (∀ w' pa pc, Ex W1 w' → 2 ≤ pc → pc ≤ maxLen → SlD w' pa (pathD three 1) → Calls Tryd.prog 32 #[.agg (rowB 32 (dF (litD r012L))), I 3, I 1, .agg (rowB 32 (dF (unitD 1))), .slice pa 2 pc] w' (Post w' (.bool false))) := Lib.hid fun w' pa pc k h1 h2 h3 => by
    have hl : (pathD three 1).length = 2 := by rw [three_path]; rfl
    have := includes_any G1 (litD r012L) 3 1 (unitD 1) (pathD three 1) pa pc w' k (by rw [hl]; exact h1) h2 h3
    rw [hl] at this
    rwa [show decide (ClimbD 3 1 (unitD 1) (pathD three 1) = some (litD r012L)) = false from three_off] at this
  have he1 := eqD (litD r012L) (litD r012L)
  have he2 := eqD (litD r012L) (litD n01L)
  rw [three_ne] at he2
  rw [decide_eq_true rfl] at he1
  have x0 := C3_ext0 (unitD 1) (unitD 2) (unitD 3)
  have x1 := C3_ext1 (unitD 1) (unitD 2) (unitD 3)
  have x2 := C3_ext2 (unitD 1) (unitD 2) (unitD 3)
  have xs := C3_size (unitD 1) (unitD 2) (unitD 3)
  generalize proofD three 2 true = qs at HQ
  generalize pathD three 1 = ps at HP HI1 HI2
  subst hW1
  clear hS G1 G
  generalize litD r012L = dr at *
  generalize litD n01L = dn at *
  go_enter Tryd.func15, Tryd.ntmps15
  go_wp2_with (first | (go_at_call 17; (with_reducible refine (HRt.out _ (by (try show Ex _ _); repeat (first | (with_reducible exact ex_refl _) | (with_reducible assumption) | (with_reducible refine ex_drewL ?_) | (with_reducible refine ex_appR ?_ _) | (with_reducible refine ex_wx ?_ _) | (with_reducible refine ex_drew ?_) | (with_reducible refine ex_alloc ?_ _)))).mono ?_); rintro e w2 ⟨rfl, X1, rfl⟩) | (go_at_call 18; (with_reducible refine (HP.out _ (by (try show Ex _ _); repeat (first | (with_reducible exact ex_refl _) | (with_reducible assumption) | (with_reducible refine ex_drewL ?_) | (with_reducible refine ex_appR ?_ _) | (with_reducible refine ex_wx ?_ _) | (with_reducible refine ex_drew ?_) | (with_reducible refine ex_alloc ?_ _)))).mono ?_); rintro e w2 ⟨pa, pc, rfl, p1, p2, p3, psl, X2, rfl⟩) | (go_at_call 19; (with_reducible refine (HQ.out _ (by (try show Ex _ _); repeat (first | (with_reducible exact ex_refl _) | (with_reducible assumption) | (with_reducible refine ex_drewL ?_) | (with_reducible refine ex_appR ?_ _) | (with_reducible refine ex_wx ?_ _) | (with_reducible refine ex_drew ?_) | (with_reducible refine ex_alloc ?_ _)))).mono ?_); rintro e w2 ⟨qa, qc, rfl, q1, q2, q3, qsl, X3, rfl⟩))
  clear qsl q1 q2 q3 p3
  (try simp only [wx_wx] at psl)
  refine wp_region_seq [(0, true), (1, true), (2, true), (3, true), (4, true), (5, true), (6, true), (7, true), (8, true), (9, true), (10, true), (11, true), (12, true), (13, true), (14, true), (15, true), (16, true), (17, true), (19, true), (20, true), (21, true), (18, false), (22, false), (23, true), (24, true), (25, true), (26, true), (27, true), (28, true), (29, true), (30, true), (31, true), (32, true), (33, false), (34, true), (35, true), (36, true), (37, true), (38, true), (39, true), (40, true), (41, true), (42, true), (43, true), (44, true), (45, true), (46, true), (47, true), (48, true), (49, true), (50, true), (51, true), (52, false), (53, true), (54, true), (55, true), (56, true), (57, true), (58, true), (59, true), (60, false), (61, true), (62, true), (63, true)] (by kernel_rfl) (by kernel_rfl) (fun _ _ d _ _ h => by cases d <;> exact h) ?_
  simp only [List.map_cons, List.map_nil, nth]
  repeat (first | (refine wpSeq_look ?_; go_big_quiet_step (fail); refine wpQuiet_nil ?_) | (refine wpSeq_effF (by rfl) ?_; go_simp) | (refine wpSeq_eff (by rfl) ?_; (try dsimp only); go_wp2_with (first | (go_at_call 24; (with_reducible refine (HN1.out _ (by (try show Ex _ _); repeat (first | (with_reducible exact ex_refl _) | (with_reducible assumption) | (with_reducible refine ex_drewL ?_) | (with_reducible refine ex_appR ?_ _) | (with_reducible refine ex_wx ?_ _) | (with_reducible refine ex_drew ?_) | (with_reducible refine ex_alloc ?_ _)))).mono ?_); rintro e w2 ⟨rfl, X, rfl⟩) | (go_at_call 24; (with_reducible refine (HN2.out _ (by (try show Ex _ _); repeat (first | (with_reducible exact ex_refl _) | (with_reducible assumption) | (with_reducible refine ex_drewL ?_) | (with_reducible refine ex_appR ?_ _) | (with_reducible refine ex_wx ?_ _) | (with_reducible refine ex_drew ?_) | (with_reducible refine ex_alloc ?_ _)))).mono ?_); rintro e w2 ⟨rfl, X, rfl⟩) | (go_at_call 32; (with_reducible refine (HI1.out _ _ _ (by (try show Ex _ _); repeat (first | (with_reducible exact ex_refl _) | (with_reducible assumption) | (with_reducible refine ex_drewL ?_) | (with_reducible refine ex_appR ?_ _) | (with_reducible refine ex_wx ?_ _) | (with_reducible refine ex_drew ?_) | (with_reducible refine ex_alloc ?_ _))) p1 p2 (psl.ex (by (try show Ex _ _); repeat (first | (with_reducible exact ex_refl _) | (with_reducible assumption) | (with_reducible refine ex_drewL ?_) | (with_reducible refine ex_appR ?_ _) | (with_reducible refine ex_wx ?_ _) | (with_reducible refine ex_drew ?_) | (with_reducible refine ex_alloc ?_ _))))).mono ?_); rintro e w2 ⟨rfl, X, rfl⟩) | (go_at_call 32; (with_reducible refine (HI2.out _ _ _ (by (try show Ex _ _); repeat (first | (with_reducible exact ex_refl _) | (with_reducible assumption) | (with_reducible refine ex_drewL ?_) | (with_reducible refine ex_appR ?_ _) | (with_reducible refine ex_wx ?_ _) | (with_reducible refine ex_drew ?_) | (with_reducible refine ex_alloc ?_ _))) p1 p2 (psl.ex (by (try show Ex _ _); repeat (first | (with_reducible exact ex_refl _) | (with_reducible assumption) | (with_reducible refine ex_drewL ?_) | (with_reducible refine ex_appR ?_ _) | (with_reducible refine ex_wx ?_ _) | (with_reducible refine ex_drew ?_) | (with_reducible refine ex_alloc ?_ _))))).mono ?_); rintro e w2 ⟨rfl, X, rfl⟩)); refine mixQ_mk (by (try show Ex _ _); repeat (first | (with_reducible exact ex_refl _) | (with_reducible assumption) | (with_reducible refine ex_drewL ?_) | (with_reducible refine ex_appR ?_ _) | (with_reducible refine ex_wx ?_ _) | (with_reducible refine ex_drew ?_) | (with_reducible refine ex_alloc ?_ _))) ?_))
  refine wpSeq_nil ?_
  all_goals
    go_wp2
    go_ret
    exact post_mk rfl (by (try show Ex _ _); repeat (first | (with_reducible exact ex_refl _) | (with_reducible assumption) | (with_reducible refine ex_drewL ?_) | (with_reducible refine ex_appR ?_ _) | (with_reducible refine ex_wx ?_ _) | (with_reducible refine ex_drew ?_) | (with_reducible refine ex_alloc ?_ _)))
end Go.Proofs.YtbobamifpjlmiaaDoor
