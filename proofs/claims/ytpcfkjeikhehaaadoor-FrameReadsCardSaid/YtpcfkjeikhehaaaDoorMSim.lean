import Derived.Test.YtpcfkjeikhehaaaDoorMFrFew
import Derived.Test.YtpcfkjeikhehaaaDoorMFwP
import Derived.Test.YtpcfkjeikhehaaaDoorMFwR
import Derived.Test.YtpcfkjeikhehaaaDoorMFwT
import Derived.Test.YtpcfkjeikhehaaaDoorMFrApart
import Derived.Test.YtpcfkjeikhehaaaDoorMForkJ

/- What lies above a height is kept, where a new block below it has other contents. -/
set_option linter.unusedSimpArgs false
set_option linter.unusedVariables false
set_option maxRecDepth 20000
namespace Go.Proofs.YtpcfkjeikhehaaaDoor
open Go.RowKit
/-- Two worlds alike above a height. -/
structure Sim (Z : Nat) (u w : World) : Prop where
  size : u.heap.size = w.heap.size
  same : ∀ b, Z ≤ b → w.heap[b]? = u.heap[b]?
theorem Sim.refl (Z : Nat) (w : World) : Sim Z w w := ⟨rfl, fun _ _ => rfl⟩
theorem alloc_heap (w : World) (o : Obj) (k : Nat) : (w.alloc o).heap[k]? = if k < w.heap.size then w.heap[k]? else if k = w.heap.size then some o else none := by
  split
  · exact ex_of_alloc _ _ _ ‹_›
  · split
    · rename_i h; subst h; exact heap_alloc_new w o
    · rename_i h1 h2
      refine Array.getElem?_eq_none ?_
      have : (w.alloc o).heap.size = w.heap.size + 1 := by simp [go_sem]
      omega
theorem wx_heap2 (w : World) (X : More) (k : Nat) : (wx w X).heap[k]? = if k < w.heap.size then w.heap[k]? else X.blocks[k - w.heap.size]? := by
  split
  · exact wx_heap w X k ‹_›
  · rename_i h
    have := wx_heap_more w X (k - w.heap.size)
    rw [show w.heap.size + (k - w.heap.size) = k by omega] at this
    exact this
theorem Sim.wx {Z : Nat} {u w : World} (h : Sim Z u w) (X : More) : Sim Z (wx u X) (wx w X) := by
  refine ⟨by rw [wx_size, wx_size, h.size], fun b hb => ?_⟩
  rw [wx_heap2, wx_heap2, h.size, h.same b hb]
theorem Sim.alloc {Z : Nat} {u w : World} (h : Sim Z u w) (o : Obj) : Sim Z (u.alloc o) (w.alloc o) := by
  have h1 : (u.alloc o).heap.size = u.heap.size + 1 := by simp [go_sem]
  have h2 : (w.alloc o).heap.size = w.heap.size + 1 := by simp [go_sem]
  refine ⟨by rw [h1, h2, h.size], fun b hb => ?_⟩
  rw [alloc_heap, alloc_heap, h.size, h.same b hb]
theorem Sim.turn {Z : Nat} {u w : World} (h : Sim Z u w) (o o' : Obj) (hz : u.heap.size < Z) : Sim Z (u.alloc o) (w.alloc o') := by
  have h1 : (u.alloc o).heap.size = u.heap.size + 1 := by simp [go_sem]
  have h2 : (w.alloc o').heap.size = w.heap.size + 1 := by simp [go_sem]
  refine ⟨by rw [h1, h2, h.size], fun b hb => ?_⟩
  rw [Array.getElem?_eq_none (by rw [h2]; have := h.size; omega), Array.getElem?_eq_none (by rw [h1]; omega)]
theorem Keep.ofSim {Z : Nat} {u w : World} (h : Sim Z u w) : Keep Z u w := ⟨Nat.le_of_eq h.size, fun b hb _ => h.same b hb⟩
theorem Keep.allocR {Z : Nat} {u w : World} (h : Keep Z u w) (o : Obj) : Keep Z u (w.alloc o) := h.trans (Keep.ofEx (ex_alloc (ex_refl _) _))
theorem Keep.wxR {Z : Nat} {u w : World} (h : Keep Z u w) (X : More) : Keep Z u (wx w X) := h.trans (Keep.ofEx ⟨X, rfl⟩)
theorem Keep.appR {Z : Nat} {u w : World} {X : More} (h : Keep Z u (wx w X)) (Y : More) : Keep Z u (wx w (X.app Y)) := h.trans (Keep.ofEx (ex_app w X Y))
end Go.Proofs.YtpcfkjeikhehaaaDoor

/- FrameWrites: what it does. -/
set_option linter.unusedSimpArgs false
set_option linter.unusedVariables false
set_option maxRecDepth 20000
namespace Go.Proofs.YtpcfkjeikhehaaaDoor
open Go.RowKit
theorem slt_one {w : World} {v : Value} {l : List UInt8} (h : SlT w v l) : v.oneCell' = true := by obtain ⟨a, c, rfl, _⟩ := h.out; rfl
theorem slz_one {w : World} {v : Value} {l : List Int} (h : SlZ w v l) : v.oneCell' = true := by obtain ⟨a, c, rfl, _⟩ := h.out; rfl
theorem slg_one {w : World} {v : Value} {l : List En} (h : SlG w v l) : v.oneCell' = true := by obtain ⟨a, c, rfl, _⟩ := h.out; rfl
theorem few_bd (m : Ms) : (fewM m).es.length ≤ 9 := by
  show ((m.es.take 9).map fewE).length ≤ 9
  rw [List.length_map, List.length_take]; omega
@[go_sem] theorem at_msg2 (cs : Array Value) (i : Int) (w : World) : (Instr.index 42 (.agg cs) (.int .i64 i)).run Tryd.prog w = if 0 ≤ i ∧ i < (2 : Nat) then .ok (.agg (cs.extract (i.toNat * 11) (i.toNat * 11 + 11))) w else idxRaw Tryd.prog 42 (.agg cs) (.int .i64 i) w := index_row Tryd.underlying42 Tryd.underlying41 rfl (by kernel_rfl) cs i w
@[go_sem high] theorem atI_msg2 (f : Nat → Int) (i : Int) (w : World) : (Instr.index 42 (.agg (rowI 22 f)) (.int .i64 i)).run Tryd.prog w = if 0 ≤ i ∧ i < (2 : Nat) then .ok (.agg (rowI 11 (shiftF f (i.toNat * 11)))) w else idxRaw Tryd.prog 42 (.agg (rowI 22 f)) (.int .i64 i) w := index_rowI (n := 2) (s := 11) (N := 22) Tryd.underlying42 Tryd.underlying41 rfl (by kernel_rfl) (by decide) f i w
set_option maxHeartbeats 2000000 in
theorem writes_any (x y : Ms) (v u : Value) (w : World) (G : FGlob w) (hx : MsV w v x) (hy : MsV w u y) :
    Calls Tryd.prog 5 #[v, u] w (Post w (.bool true)) := by
  have KX := Lib.hid (fun w' (k : Ex w w') => few_own x v w' (hx.ex k))
  have KY := Lib.hid (fun w' (k : Ex w w') => few_own y u w' (hy.ex k))
  have KXv := Lib.hid (fun w' (k : Ex w w') => few_any x v w' (hx.ex k))
  have KYv := Lib.hid (fun w' (k : Ex w w') => few_any y u w' (hy.ex k))
  have HZ : Hid (∀ z : Ms, z.es.length ≤ 1000 → ∀ v' w', Ex w w' → MsV w' v' z → Calls Tryd.prog 17 #[v'] w' (PostE w' z) ∧ Calls Tryd.prog 18 #[v'] w' (Post w' (I (errC (rightM z)))) ∧ Calls Tryd.prog 19 #[v'] w' (Post w' (.bool (rightM z))) ∧
    (rightM z = true → Calls Tryd.prog 20 #[v'] w' (PostOw w' (sealL (plainM z)))) ∧ ∀ u', MsV w' u' z → Calls Tryd.prog 21 #[v', u'] w' (Post w' (.bool true))) :=
    Lib.hid fun z hz v' w' k h => ⟨encode_any z v' w' (G.ex k) h hz, check_any z v' w' (G.ex k) h hz, right_any z v' w' h (by omega), fun hr => refbytes_any z v' w' h hr, fun u' h2 => by have := refsame_any z z v' u' w' h h2; rwa [sameM_self] at this⟩
  obtain ⟨ev, mv, dv, rfl, hx1, hx2, hx3⟩ := hx.out
  obtain ⟨eu, mu, du, rfl, hy1, hy2, hy3⟩ := hy.out
  have HO1 := Lib.hid (And.intro (slg_one hx1) (And.intro (slz_one hx2) (slt_one hx3)))
  have HO2 := Lib.hid (And.intro (slg_one hy1) (And.intro (slz_one hy2) (slt_one hy3)))
  clear hx1 hx2 hx3 hy1 hy2 hy3
  have HSx := Lib.hid (few_bd x)
  have HSy := Lib.hid (few_bd y)
  clear hx hy
  generalize fewM x = x2 at *
  generalize fewM y = y2 at *
  obtain ⟨A, hA⟩ : ∃ A, (w.alloc (.cells #[I x.kd, I x.fr, I x.to, L x.tm, L x.pi, L x.pt, ev, L x.cm, .bool x.ok, mv, dv] 41)).alloc (.cells #[I y.kd, I y.fr, I y.to, L y.tm, L y.pi, L y.pt, eu, L y.cm, .bool y.ok, mu, du] 41) = A := ⟨_, rfl⟩
  have hs0 : w.heap.size + 2 = A.heap.size := by rw [← hA]; simp [go_sem]
  have hq0 : A.heap[w.heap.size]? = some (.cells #[I x.kd, I x.fr, I x.to, L x.tm, L x.pi, L x.pt, ev, L x.cm, .bool x.ok, mv, dv] 41 (0, 0)) := by rw [← hA]; exact (ex_of_alloc _ _ _ (by simp [go_sem])).trans (heap_alloc_new w _)
  have hq1 : A.heap[w.heap.size + 1]? = some (.cells #[I y.kd, I y.fr, I y.to, L y.tm, L y.pi, L y.pt, eu, L y.cm, .bool y.ok, mu, du] 41 (0, 0)) := by rw [← hA]; exact alloc_at (by simp [go_sem])
  have hk0 : Ex w A := by rw [← hA]; exact ex_alloc (ex_alloc (ex_refl _) _) _
  have GA := G.ex hk0
  obtain ⟨n0, nf0⟩ := block_cells (n := 11) hq0 rfl
  obtain ⟨n1, nf1⟩ := block_cells (n := 11) hq1 rfl
  have HqH := Lib.hid (And.intro hq0 hq1)
  clear hq0 hq1
  replace hA := Lib.hid hA
  go_enter Tryd.func5, Tryd.ntmps5
  go_wp2_with (go_at_call 9; (with_reducible refine (wakes_any _ (G.ex (by (try show Ex _ _); repeat (first | (with_reducible exact ex_refl _) | (with_reducible assumption) | (with_reducible refine ex_drewL ?_) | (with_reducible refine ex_appR ?_ _) | (with_reducible refine ex_wx ?_ _) | (with_reducible refine ex_drew ?_) | (with_reducible refine ex_alloc ?_ _))))).mono ?_); rintro e w' ⟨rfl, X, rfl⟩)
  rw [hA.out]
  clear hA
  go_loopw [18] (fun i W => ∃ k : Nat, k ≤ 2 ∧ i = I k ∧ Hid (Ex A W)) (fun i _ => 2 - (intOf i).toNat)
  case atStart =>
    exact ⟨0, by omega, rfl, Lib.hid (by (try show Ex _ _); repeat (first | (with_reducible exact ex_refl _) | (with_reducible assumption) | (with_reducible refine ex_drewL ?_) | (with_reducible refine ex_appR ?_ _) | (with_reducible refine ex_wx ?_ _) | (with_reducible refine ex_drew ?_) | (with_reducible refine ex_alloc ?_ _)))⟩
  case round =>
    obtain ⟨k, hk, rfl, hAr⟩ := hrel
    by_cases hlt : k < 2
    · have HIx : ∃ (z : Ms) (ez mz dz : Value) (z2 : Ms), (∀ W, (Instr.index 42 (.agg #[I x.kd, I x.fr, I x.to, L x.tm, L x.pi, L x.pt, ev, L x.cm, .bool x.ok, mv, dv, I y.kd, I y.fr, I y.to, L y.tm, L y.pi, L y.pt, eu, L y.cm, .bool y.ok, mu, du]) (.int .i64 k)).run Tryd.prog W = .ok (.agg #[I z.kd, I z.fr, I z.to, L z.tm, L z.pi, L z.pt, ez, L z.cm, .bool z.ok, mz, dz]) W) ∧
          Hid (∀ (w' : World), Ex w w' → Calls Tryd.prog 16 #[.agg #[I z.kd, I z.fr, I z.to, L z.tm, L z.pi, L z.pt, ez, L z.cm, .bool z.ok, mz, dz]] w' fun e w'_1 => ∃ v', e = Ending.returned v' ∧ MsO w'_1 w'.heap.size v' z2 ∧ Ex w' w'_1) ∧ Hid (z2.es.length ≤ 9) ∧ ez.oneCell' = true ∧ mz.oneCell' = true ∧ dz.oneCell' = true := by
        rcases (show k = 0 ∨ k = 1 by omega) with rfl | rfl
        · exact ⟨x, ev, mv, dv, x2, fun W => (at_msg2 _ _ W).trans (if_pos (by decide)), KX, HSx, HO1.out⟩
        · exact ⟨y, eu, mu, du, y2, fun W => (at_msg2 _ _ W).trans (if_pos (by decide)), KY, HSy, HO2.out⟩
      obtain ⟨z, ez, mz, dz, z2, HI, KZ, HSz, oz1, oz2, oz3⟩ := HIx
      have hlt2 : ((k : Nat) : Int) < 2 := by omega
      clear KX KY HSx HSy
      go_wp2
      obtain ⟨W5, hW5⟩ : ∃ W5, wr.alloc (.cells #[I z.kd, I z.fr, I z.to, L z.tm, L z.pi, L z.pt, ez, L z.cm, .bool z.ok, mz, dz] 41) = W5 := ⟨_, rfl⟩
      have hq5 : W5.heap[wr.heap.size]? = some (.cells #[I z.kd, I z.fr, I z.to, L z.tm, L z.pi, L z.pt, ez, L z.cm, .bool z.ok, mz, dz] 41 (0, 0)) := by rw [← hW5]; exact heap_alloc_new wr _
      have hz5 : wr.heap.size < W5.heap.size := (Array.getElem?_eq_some_iff.1 hq5).1
      have hk5 : Ex A W5 := ex_trans hAr.out (by rw [← hW5]; exact ex_alloc (ex_refl _) _)
      rw [hW5]
      clear hW5
      obtain ⟨m5, mf5⟩ := block_cells (n := 11) hq5 rfl
      clear hq5
      have KZ1 := Lib.hid (fun w' (k : Ex W5 w') => KZ.out w' (ex_trans hk0 (ex_trans hk5 k)))
      have KZ2 := Lib.hid (fun w' (k : Ex W5 w') => KZ.out w' (ex_trans hk0 (ex_trans hk5 k)))
      clear KZ HI hAr n0 n1 nf0 nf1
      refine wp_mid (fun a0 a' w' => ∃ (b7 b8 : Nat) (c1 c2 : Array Value) (u21 u22 u23 u24 : Value), a' = ((((((a0.put (some 21) u21).put (some 22) u22).put (some 23) u23).put (some 24) u24).put (some 7) (.pointer (some ⟨b7, 0, none⟩))).put (some 8) (.pointer (some ⟨b8, 0, none⟩))) ∧
        Hid (cellsN w' b7 0 11 = some c1) ∧ Hid (cellsN w' b8 0 11 = some c2) ∧ Hid (MsV w' (.agg c1) z2) ∧ Hid (MsV w' (.agg c2) z2) ∧ b7 < w'.heap.size ∧ b8 < w'.heap.size ∧ Hid (Ex W5 w')) ?_ ?_
      · refine wp_region_forkJ (W5) (.look 0 (.look 2 (.three 1 (.three 3 (.fork 4 (.eff 5 (.eff 6 (.eff 7 .done))) 5 (.eff 4 (.eff 6 (.eff 7 .done)))) 4 (.fork 3 (.eff 5 (.eff 6 (.eff 7 .done))) 5 (.eff 3 (.eff 6 (.eff 7 .done)))) 5 (.fork 3 (.eff 4 (.eff 6 (.eff 7 .done))) 4 (.eff 3 (.eff 6 (.eff 7 .done))))) 4 (.fork 1 (.fork 3 (.eff 5 (.eff 6 (.eff 7 .done))) 5 (.eff 3 (.eff 6 (.eff 7 .done)))) 5 (.eff 1 (.eff 3 (.eff 6 (.eff 7 .done))))) 5 (.fork 1 (.fork 3 (.eff 4 (.eff 6 (.eff 7 .done))) 4 (.eff 3 (.eff 6 (.eff 7 .done)))) 4 (.eff 1 (.eff 3 (.eff 6 (.eff 7 .done)))))))) (by (try show Ex _ _); repeat (first | (with_reducible exact ex_refl _) | (with_reducible assumption) | (with_reducible refine ex_drewL ?_) | (with_reducible refine ex_appR ?_ _) | (with_reducible refine ex_wx ?_ _) | (with_reducible refine ex_drew ?_) | (with_reducible refine ex_alloc ?_ _))) (by kernel_rfl) (by kernel_rfl) (fun _ _ d _ _ h => by cases d <;> exact h) ?_
        simp only [Fj.ops, nth]
        repeat (first | ((with_reducible refine wpForkJ_look ?_); go_big_quiet_step (fail); (try (with_reducible refine wpQuiet_nil ?_))) | (with_reducible refine wpForkJ_eff ?_) | ((with_reducible refine effT_F ?_ ?_); (focus rfl); go_simp) | ((with_reducible refine effT_T ?_ ?_); (focus rfl); (try dsimp only); go_wp2_with (first | (go_at_call 16; (with_reducible refine (KZ1.out _ (by (try show Ex _ _); repeat (first | (with_reducible exact ex_refl _) | (with_reducible assumption) | (with_reducible refine ex_drewL ?_) | (with_reducible refine ex_appR ?_ _) | (with_reducible refine ex_wx ?_ _) | (with_reducible refine ex_drew ?_) | (with_reducible refine ex_alloc ?_ _)))).mono ?_); clear KZ1; rintro e w' ⟨v1, rfl, hm1, X1, rfl⟩; (try simp only [wx_wx, wx_drew] at hm1); obtain ⟨e1, q1, d1, rfl, g1, g2, g3⟩ := id hm1.out; have o1 := slg_one g1.slg; have o2 := slz_one g2.slz; have o3 := slt_one g3.slt; clear g1 g2 g3; replace hm1 := Lib.hid hm1) | (go_at_call 16; (with_reducible refine (KZ2.out _ (by (try show Ex _ _); repeat (first | (with_reducible exact ex_refl _) | (with_reducible assumption) | (with_reducible refine ex_drewL ?_) | (with_reducible refine ex_appR ?_ _) | (with_reducible refine ex_wx ?_ _) | (with_reducible refine ex_drew ?_) | (with_reducible refine ex_alloc ?_ _)))).mono ?_); clear KZ2; rintro e w' ⟨v2, rfl, hm2, X2, rfl⟩; (try simp only [wx_wx, wx_drew] at hm2); obtain ⟨e2, q2, d2, rfl, j1, j2, j3⟩ := id hm2.out; have p1 := slg_one j1.slg; have p2 := slz_one j2.slz; have p3 := slt_one j3.slt; clear j1 j2 j3; replace hm2 := Lib.hid hm2)); refine mixQ_mk (by (try show Ex _ _); repeat (first | (with_reducible exact ex_refl _) | (with_reducible assumption) | (with_reducible refine ex_drewL ?_) | (with_reducible refine ex_appR ?_ _) | (with_reducible refine ex_wx ?_ _) | (with_reducible refine ex_drew ?_) | (with_reducible refine ex_alloc ?_ _))) ?_))
        all_goals (try (first | (with_reducible refine wpForkJ_fork ?_ ?_) | (with_reducible refine wpForkJ_three ?_ ?_ ?_)))
        all_goals repeat (first | ((with_reducible refine wpForkJ_look ?_); go_big_quiet_step (fail); (try (with_reducible refine wpQuiet_nil ?_))) | (with_reducible refine wpForkJ_eff ?_) | ((with_reducible refine effT_F ?_ ?_); (focus rfl); go_simp) | ((with_reducible refine effT_T ?_ ?_); (focus rfl); (try dsimp only); go_wp2_with (first | (go_at_call 16; (with_reducible refine (KZ1.out _ (by (try show Ex _ _); repeat (first | (with_reducible exact ex_refl _) | (with_reducible assumption) | (with_reducible refine ex_drewL ?_) | (with_reducible refine ex_appR ?_ _) | (with_reducible refine ex_wx ?_ _) | (with_reducible refine ex_drew ?_) | (with_reducible refine ex_alloc ?_ _)))).mono ?_); clear KZ1; rintro e w' ⟨v1, rfl, hm1, X1, rfl⟩; (try simp only [wx_wx, wx_drew] at hm1); obtain ⟨e1, q1, d1, rfl, g1, g2, g3⟩ := id hm1.out; have o1 := slg_one g1.slg; have o2 := slz_one g2.slz; have o3 := slt_one g3.slt; clear g1 g2 g3; replace hm1 := Lib.hid hm1) | (go_at_call 16; (with_reducible refine (KZ2.out _ (by (try show Ex _ _); repeat (first | (with_reducible exact ex_refl _) | (with_reducible assumption) | (with_reducible refine ex_drewL ?_) | (with_reducible refine ex_appR ?_ _) | (with_reducible refine ex_wx ?_ _) | (with_reducible refine ex_drew ?_) | (with_reducible refine ex_alloc ?_ _)))).mono ?_); clear KZ2; rintro e w' ⟨v2, rfl, hm2, X2, rfl⟩; (try simp only [wx_wx, wx_drew] at hm2); obtain ⟨e2, q2, d2, rfl, j1, j2, j3⟩ := id hm2.out; have p1 := slg_one j1.slg; have p2 := slz_one j2.slz; have p3 := slt_one j3.slt; clear j1 j2 j3; replace hm2 := Lib.hid hm2)); refine mixQ_mk (by (try show Ex _ _); repeat (first | (with_reducible exact ex_refl _) | (with_reducible assumption) | (with_reducible refine ex_drewL ?_) | (with_reducible refine ex_appR ?_ _) | (with_reducible refine ex_wx ?_ _) | (with_reducible refine ex_drew ?_) | (with_reducible refine ex_alloc ?_ _))) ?_))
        all_goals (try (first | (with_reducible refine wpForkJ_fork ?_ ?_) | (with_reducible refine wpForkJ_three ?_ ?_ ?_)))
        all_goals repeat (first | ((with_reducible refine wpForkJ_look ?_); go_big_quiet_step (fail); (try (with_reducible refine wpQuiet_nil ?_))) | (with_reducible refine wpForkJ_eff ?_) | ((with_reducible refine effT_F ?_ ?_); (focus rfl); go_simp) | ((with_reducible refine effT_T ?_ ?_); (focus rfl); (try dsimp only); go_wp2_with (first | (go_at_call 16; (with_reducible refine (KZ1.out _ (by (try show Ex _ _); repeat (first | (with_reducible exact ex_refl _) | (with_reducible assumption) | (with_reducible refine ex_drewL ?_) | (with_reducible refine ex_appR ?_ _) | (with_reducible refine ex_wx ?_ _) | (with_reducible refine ex_drew ?_) | (with_reducible refine ex_alloc ?_ _)))).mono ?_); clear KZ1; rintro e w' ⟨v1, rfl, hm1, X1, rfl⟩; (try simp only [wx_wx, wx_drew] at hm1); obtain ⟨e1, q1, d1, rfl, g1, g2, g3⟩ := id hm1.out; have o1 := slg_one g1.slg; have o2 := slz_one g2.slz; have o3 := slt_one g3.slt; clear g1 g2 g3; replace hm1 := Lib.hid hm1) | (go_at_call 16; (with_reducible refine (KZ2.out _ (by (try show Ex _ _); repeat (first | (with_reducible exact ex_refl _) | (with_reducible assumption) | (with_reducible refine ex_drewL ?_) | (with_reducible refine ex_appR ?_ _) | (with_reducible refine ex_wx ?_ _) | (with_reducible refine ex_drew ?_) | (with_reducible refine ex_alloc ?_ _)))).mono ?_); clear KZ2; rintro e w' ⟨v2, rfl, hm2, X2, rfl⟩; (try simp only [wx_wx, wx_drew] at hm2); obtain ⟨e2, q2, d2, rfl, j1, j2, j3⟩ := id hm2.out; have p1 := slg_one j1.slg; have p2 := slz_one j2.slz; have p3 := slt_one j3.slt; clear j1 j2 j3; replace hm2 := Lib.hid hm2)); refine mixQ_mk (by (try show Ex _ _); repeat (first | (with_reducible exact ex_refl _) | (with_reducible assumption) | (with_reducible refine ex_drewL ?_) | (with_reducible refine ex_appR ?_ _) | (with_reducible refine ex_wx ?_ _) | (with_reducible refine ex_drew ?_) | (with_reducible refine ex_alloc ?_ _))) ?_))
        all_goals (try (first | (with_reducible refine wpForkJ_fork ?_ ?_) | (with_reducible refine wpForkJ_three ?_ ?_ ?_)))
        all_goals repeat (first | ((with_reducible refine wpForkJ_look ?_); go_big_quiet_step (fail); (try (with_reducible refine wpQuiet_nil ?_))) | (with_reducible refine wpForkJ_eff ?_) | ((with_reducible refine effT_F ?_ ?_); (focus rfl); go_simp) | ((with_reducible refine effT_T ?_ ?_); (focus rfl); (try dsimp only); go_wp2_with (first | (go_at_call 16; (with_reducible refine (KZ1.out _ (by (try show Ex _ _); repeat (first | (with_reducible exact ex_refl _) | (with_reducible assumption) | (with_reducible refine ex_drewL ?_) | (with_reducible refine ex_appR ?_ _) | (with_reducible refine ex_wx ?_ _) | (with_reducible refine ex_drew ?_) | (with_reducible refine ex_alloc ?_ _)))).mono ?_); clear KZ1; rintro e w' ⟨v1, rfl, hm1, X1, rfl⟩; (try simp only [wx_wx, wx_drew] at hm1); obtain ⟨e1, q1, d1, rfl, g1, g2, g3⟩ := id hm1.out; have o1 := slg_one g1.slg; have o2 := slz_one g2.slz; have o3 := slt_one g3.slt; clear g1 g2 g3; replace hm1 := Lib.hid hm1) | (go_at_call 16; (with_reducible refine (KZ2.out _ (by (try show Ex _ _); repeat (first | (with_reducible exact ex_refl _) | (with_reducible assumption) | (with_reducible refine ex_drewL ?_) | (with_reducible refine ex_appR ?_ _) | (with_reducible refine ex_wx ?_ _) | (with_reducible refine ex_drew ?_) | (with_reducible refine ex_alloc ?_ _)))).mono ?_); clear KZ2; rintro e w' ⟨v2, rfl, hm2, X2, rfl⟩; (try simp only [wx_wx, wx_drew] at hm2); obtain ⟨e2, q2, d2, rfl, j1, j2, j3⟩ := id hm2.out; have p1 := slg_one j1.slg; have p2 := slz_one j2.slz; have p3 := slt_one j3.slt; clear j1 j2 j3; replace hm2 := Lib.hid hm2)); refine mixQ_mk (by (try show Ex _ _); repeat (first | (with_reducible exact ex_refl _) | (with_reducible assumption) | (with_reducible refine ex_drewL ?_) | (with_reducible refine ex_appR ?_ _) | (with_reducible refine ex_wx ?_ _) | (with_reducible refine ex_drew ?_) | (with_reducible refine ex_alloc ?_ _))) ?_))
        all_goals (with_reducible refine wpForkJ_nil ?_)
        all_goals
          exact ⟨_, _, #[I z2.kd, I z2.fr, I z2.to, L z2.tm, L z2.pi, L z2.pt, e1, L z2.cm, .bool z2.ok, q1, d1], #[I z2.kd, I z2.fr, I z2.to, L z2.tm, L z2.pi, L z2.pt, e2, L z2.cm, .bool z2.ok, q2, d2], _, _, _, _, rfl, Lib.hid (by simp [go_sem] <;> (intro h9; exfalso; omega)), Lib.hid (by simp [go_sem] <;> (intro h9; exfalso; omega)), Lib.hid (MsO.msv (hm1.out.keep (by repeat (first | (with_reducible exact Keep.refl _ _) | (with_reducible refine Keep.ofSim ?_; ((repeat (first | (with_reducible exact Sim.refl _ _) | (with_reducible refine Sim.wx ?_ _) | (with_reducible refine Sim.alloc ?_ _) | (with_reducible refine Sim.turn ?_ _ _ (by simp [go_sem] <;> omega)))); done)) | (with_reducible refine Keep.allocR ?_ _) | (with_reducible refine Keep.appR ?_ _) | (with_reducible refine Keep.wxR ?_ _))))), Lib.hid (MsO.msv (hm2.out.keep (by repeat (first | (with_reducible exact Keep.refl _ _) | (with_reducible refine Keep.ofSim ?_; ((repeat (first | (with_reducible exact Sim.refl _ _) | (with_reducible refine Sim.wx ?_ _) | (with_reducible refine Sim.alloc ?_ _) | (with_reducible refine Sim.turn ?_ _ _ (by simp [go_sem] <;> omega)))); done)) | (with_reducible refine Keep.allocR ?_ _) | (with_reducible refine Keep.appR ?_ _) | (with_reducible refine Keep.wxR ?_ _))))), (by simp [go_sem] <;> omega), (by simp [go_sem] <;> omega), Lib.hid (by (try show Ex _ _); repeat (first | (with_reducible exact ex_refl _) | (with_reducible assumption) | (with_reducible refine ex_drewL ?_) | (with_reducible refine ex_appR ?_ _) | (with_reducible refine ex_wx ?_ _) | (with_reducible refine ex_drew ?_) | (with_reducible refine ex_alloc ?_ _)))⟩
      rintro a6 W6 ⟨b7, b8, c1, c2, u21, u22, u23, u24, rfl, hc1, hc2, hm1, hm2, hb7, hb8, hk6⟩
      have d1 := hc1.out
      have d2 := hc2.out
      have HW := Lib.hid (HZ.out z2 (by have := HSz.out; omega))
      have HK6 : Hid (Ex w W6) := Lib.hid (ex_trans hk0 (ex_trans hk5 hk6.out))
      clear HZ KZ1 KZ2 m5 mf5 HqH
      have HL : Hid ((sealL (plainM z2)).length ≤ 1000000 ∨ rightM z2 = false) := Lib.hid (by
        cases hr : rightM z2 with
        | true => left; have := plain_len hr; rw [seal_len]; omega
        | false => right; rfl)
      unfold PostE at HW
      generalize sealL (plainM z2) = sl at *
      generalize rightM z2 = rz at *
      cases rz with
      | true =>
        have HL2 : Hid (sl.length ≤ 1000000) := Lib.hid (HL.out.resolve_right (by decide))
        rw [show errC true = 0 from rfl] at HW
        clear HL
        go_wp2_with (first | (go_at_call 17; (with_reducible refine (HW.out _ _ (ex_trans HK6.out (by (try show Ex _ _); repeat (first | (with_reducible exact ex_refl _) | (with_reducible assumption) | (with_reducible refine ex_drewL ?_) | (with_reducible refine ex_appR ?_ _) | (with_reducible refine ex_wx ?_ _) | (with_reducible refine ex_drew ?_) | (with_reducible refine ex_alloc ?_ _)))) (hm1.out.ex (by (try show Ex _ _); repeat (first | (with_reducible exact ex_refl _) | (with_reducible assumption) | (with_reducible refine ex_drewL ?_) | (with_reducible refine ex_appR ?_ _) | (with_reducible refine ex_wx ?_ _) | (with_reducible refine ex_drew ?_) | (with_reducible refine ex_alloc ?_ _))))).1.mono ?_); rintro e w' ⟨v2, rfl, ho, _, X3, rfl⟩; replace ho := ho (by trivial); (try simp only [wx_wx, wx_drew] at ho); obtain ⟨ba, bc, rfl, hbl1, hbl2, hbl3⟩ := own_form ho; replace ho := Lib.hid ho) | (go_at_call 18; (with_reducible refine (HW.out _ _ (ex_trans HK6.out (by (try show Ex _ _); repeat (first | (with_reducible exact ex_refl _) | (with_reducible assumption) | (with_reducible refine ex_drewL ?_) | (with_reducible refine ex_appR ?_ _) | (with_reducible refine ex_wx ?_ _) | (with_reducible refine ex_drew ?_) | (with_reducible refine ex_alloc ?_ _)))) (hm1.out.ex (by (try show Ex _ _); repeat (first | (with_reducible exact ex_refl _) | (with_reducible assumption) | (with_reducible refine ex_drewL ?_) | (with_reducible refine ex_appR ?_ _) | (with_reducible refine ex_wx ?_ _) | (with_reducible refine ex_drew ?_) | (with_reducible refine ex_alloc ?_ _))))).2.1.mono ?_); rintro e w' ⟨rfl, X4, rfl⟩) | (go_at_call 19; (with_reducible refine (HW.out _ _ (ex_trans HK6.out (by (try show Ex _ _); repeat (first | (with_reducible exact ex_refl _) | (with_reducible assumption) | (with_reducible refine ex_drewL ?_) | (with_reducible refine ex_appR ?_ _) | (with_reducible refine ex_wx ?_ _) | (with_reducible refine ex_drew ?_) | (with_reducible refine ex_alloc ?_ _)))) (hm2.out.ex (by (try show Ex _ _); repeat (first | (with_reducible exact ex_refl _) | (with_reducible assumption) | (with_reducible refine ex_drewL ?_) | (with_reducible refine ex_appR ?_ _) | (with_reducible refine ex_wx ?_ _) | (with_reducible refine ex_drew ?_) | (with_reducible refine ex_alloc ?_ _))))).2.2.1.mono ?_); rintro e w' ⟨rfl, X5, rfl⟩) | (go_at_call 20; (with_reducible refine ((HW.out _ _ (ex_trans HK6.out (by (try show Ex _ _); repeat (first | (with_reducible exact ex_refl _) | (with_reducible assumption) | (with_reducible refine ex_drewL ?_) | (with_reducible refine ex_appR ?_ _) | (with_reducible refine ex_wx ?_ _) | (with_reducible refine ex_drew ?_) | (with_reducible refine ex_alloc ?_ _)))) (hm2.out.ex (by (try show Ex _ _); repeat (first | (with_reducible exact ex_refl _) | (with_reducible assumption) | (with_reducible refine ex_drewL ?_) | (with_reducible refine ex_appR ?_ _) | (with_reducible refine ex_wx ?_ _) | (with_reducible refine ex_drew ?_) | (with_reducible refine ex_alloc ?_ _))))).2.2.2.1 (by trivial)).mono ?_); rintro e w' ⟨v4, rfl, ho4, X6, rfl⟩; (try simp only [wx_wx, wx_drew] at ho4)) | (go_at_call 10; (with_reducible refine (sameL_any _ _ _ _ _ (ho.out.slt.ex (by (try show Ex _ _); repeat (first | (with_reducible exact ex_refl _) | (with_reducible assumption) | (with_reducible refine ex_drewL ?_) | (with_reducible refine ex_appR ?_ _) | (with_reducible refine ex_wx ?_ _) | (with_reducible refine ex_drew ?_) | (with_reducible refine ex_alloc ?_ _)))) (ho4.slt.ex (by (try show Ex _ _); repeat (first | (with_reducible exact ex_refl _) | (with_reducible assumption) | (with_reducible refine ex_drewL ?_) | (with_reducible refine ex_appR ?_ _) | (with_reducible refine ex_wx ?_ _) | (with_reducible refine ex_drew ?_) | (with_reducible refine ex_alloc ?_ _))))).mono ?_); rw [decide_eq_true rfl]; rintro e w' ⟨rfl, X7, rfl⟩))
        replace hbl1 : sl.length ≤ bc := hbl1
        generalize hln : sl.length = ln0 at *
        have hln2 : ln0 ≤ 1000000 := by have := HL2.out; omega
        clear HL2 ho4
        go_loopw [60] (fun i W => ∃ (q : Nat) (l' : List UInt8), q ≤ ln0 ∧ i = I q ∧ l'.length = ln0 ∧ Hid (OwnL W W6.heap.size (.slice ba ln0 bc) l') ∧ Hid (Ex W6 W)) (fun i _ => ln0 - (intOf i).toNat)
        case atStart => first | exact ⟨0, sl, by omega, rfl, hln, Lib.hid (ownl_nil _ _), Lib.hid (by (try show Ex _ _); repeat (first | (with_reducible exact ex_refl _) | (with_reducible assumption) | (with_reducible refine ex_drewL ?_) | (with_reducible refine ex_appR ?_ _) | (with_reducible refine ex_wx ?_ _) | (with_reducible refine ex_drew ?_) | (with_reducible refine ex_alloc ?_ _)))⟩ | exact ⟨0, sl, by omega, rfl, hln, Lib.hid (owns_low (OwnL.ex ho.out (by (try show Ex _ _); repeat (first | (with_reducible exact ex_refl _) | (with_reducible assumption) | (with_reducible refine ex_drewL ?_) | (with_reducible refine ex_appR ?_ _) | (with_reducible refine ex_wx ?_ _) | (with_reducible refine ex_drew ?_) | (with_reducible refine ex_alloc ?_ _)))) (by simp [go_sem] <;> omega)), Lib.hid (by (try show Ex _ _); repeat (first | (with_reducible exact ex_refl _) | (with_reducible assumption) | (with_reducible refine ex_drewL ?_) | (with_reducible refine ex_appR ?_ _) | (with_reducible refine ex_wx ?_ _) | (with_reducible refine ex_drew ?_) | (with_reducible refine ex_alloc ?_ _)))⟩
        case round =>
          obtain ⟨q, l', hq, rfl, hl', hO2, hE2⟩ := hrel
          by_cases hql : q < ln0
          ·
            have hU := hO2.out
            unfold OwnL at hU
            rw [hl', ← KU_flat] at hU
            obtain ⟨g, cap, cur, hv, _⟩ := own_block hU (by omega) (by omega)
            obtain ⟨rfl, rfl⟩ : ba = some ⟨g, 0, none⟩ ∧ bc = cap := by simpa using hv
            obtain ⟨xb, hx⟩ : ∃ x, l'[q]? = some x := ⟨_, List.getElem?_eq_getElem (by omega)⟩
            obtain ⟨r1, r2, r3, r4⟩ := own_atU hU hx
            have hO3 := own_setU hU (xb + 1) (i := q) (by omega)
            have hw8 : IntKind.u8.wrap (bn xb + 1) = bn (xb + 1) := by rw [IntKind.wrap_u8]; unfold bn; rw [UInt8.toNat_add]; simp
            have hw9 : (bn xb + 1) % 256 = bn (xb + 1) := by rw [← hw8, IntKind.wrap_u8]
            have HO3 : Hid (OwnL (wr.setCell ⟨g, q, none⟩ (B (xb + 1))) W6.heap.size (.slice (some ⟨g, 0, none⟩) ln0 bc) (l'.set q (xb + 1))) := Lib.hid (by unfold OwnL; rw [List.length_set, hl', ← KU_flat]; exact hO3.1)
            have HE3 : Hid (Ex W6 (wr.setCell ⟨g, q, none⟩ (B (xb + 1)))) := Lib.hid (ex_of_below ((ex_below hE2.out).trans hO3.2))
            have hqi : (q : Int) < ln0 := by omega
            clear hU hv hx hO3 hO2 hE2
            generalize xb + 1 = yb at *
            go_wp2
            exact ⟨⟨q + 1, l'.set q yb, by omega, by go_num, by rw [List.length_set]; exact hl', HO3, HE3⟩, by simp [intOf]; omega⟩
          · have hqe : q = ln0 := by omega
            subst hqe
            clear hql hO2 hq hl'
            obtain ⟨X9, rfl⟩ := hE2.out
            go_wp2_with (go_at_call 21; (with_reducible refine ((HW.out _ _ (ex_trans HK6.out (by (try show Ex _ _); repeat (first | (with_reducible exact ex_refl _) | (with_reducible assumption) | (with_reducible refine ex_drewL ?_) | (with_reducible refine ex_appR ?_ _) | (with_reducible refine ex_wx ?_ _) | (with_reducible refine ex_drew ?_) | (with_reducible refine ex_alloc ?_ _)))) (hm1.out.ex (by (try show Ex _ _); repeat (first | (with_reducible exact ex_refl _) | (with_reducible assumption) | (with_reducible refine ex_drewL ?_) | (with_reducible refine ex_appR ?_ _) | (with_reducible refine ex_wx ?_ _) | (with_reducible refine ex_drew ?_) | (with_reducible refine ex_alloc ?_ _))))).2.2.2.2 _ (hm2.out.ex (by (try show Ex _ _); repeat (first | (with_reducible exact ex_refl _) | (with_reducible assumption) | (with_reducible refine ex_drewL ?_) | (with_reducible refine ex_appR ?_ _) | (with_reducible refine ex_wx ?_ _) | (with_reducible refine ex_drew ?_) | (with_reducible refine ex_alloc ?_ _))))).mono ?_); rintro e w' ⟨rfl, X9, rfl⟩)
            exact ⟨⟨k + 1, by omega, by go_num, Lib.hid (ex_trans hk5 (ex_trans hk6.out (by (try show Ex _ _); repeat (first | (with_reducible exact ex_refl _) | (with_reducible assumption) | (with_reducible refine ex_drewL ?_) | (with_reducible refine ex_appR ?_ _) | (with_reducible refine ex_wx ?_ _) | (with_reducible refine ex_drew ?_) | (with_reducible refine ex_alloc ?_ _)))))⟩, by simp [intOf]; omega⟩
      | false =>
        rw [show errC false = 170 from rfl] at HW
        clear HL
        go_wp2_with (first | (go_at_call 17; (with_reducible refine (HW.out _ _ (ex_trans HK6.out (by (try show Ex _ _); repeat (first | (with_reducible exact ex_refl _) | (with_reducible assumption) | (with_reducible refine ex_drewL ?_) | (with_reducible refine ex_appR ?_ _) | (with_reducible refine ex_wx ?_ _) | (with_reducible refine ex_drew ?_) | (with_reducible refine ex_alloc ?_ _)))) (hm1.out.ex (by (try show Ex _ _); repeat (first | (with_reducible exact ex_refl _) | (with_reducible assumption) | (with_reducible refine ex_drewL ?_) | (with_reducible refine ex_appR ?_ _) | (with_reducible refine ex_wx ?_ _) | (with_reducible refine ex_drew ?_) | (with_reducible refine ex_alloc ?_ _))))).1.mono ?_); rintro e w' ⟨v2, rfl, _, ho, X3, rfl⟩; replace ho := ho (by trivial); subst ho) | (go_at_call 18; (with_reducible refine (HW.out _ _ (ex_trans HK6.out (by (try show Ex _ _); repeat (first | (with_reducible exact ex_refl _) | (with_reducible assumption) | (with_reducible refine ex_drewL ?_) | (with_reducible refine ex_appR ?_ _) | (with_reducible refine ex_wx ?_ _) | (with_reducible refine ex_drew ?_) | (with_reducible refine ex_alloc ?_ _)))) (hm1.out.ex (by (try show Ex _ _); repeat (first | (with_reducible exact ex_refl _) | (with_reducible assumption) | (with_reducible refine ex_drewL ?_) | (with_reducible refine ex_appR ?_ _) | (with_reducible refine ex_wx ?_ _) | (with_reducible refine ex_drew ?_) | (with_reducible refine ex_alloc ?_ _))))).2.1.mono ?_); rintro e w' ⟨rfl, X4, rfl⟩) | (go_at_call 19; (with_reducible refine (HW.out _ _ (ex_trans HK6.out (by (try show Ex _ _); repeat (first | (with_reducible exact ex_refl _) | (with_reducible assumption) | (with_reducible refine ex_drewL ?_) | (with_reducible refine ex_appR ?_ _) | (with_reducible refine ex_wx ?_ _) | (with_reducible refine ex_drew ?_) | (with_reducible refine ex_alloc ?_ _)))) (hm2.out.ex (by (try show Ex _ _); repeat (first | (with_reducible exact ex_refl _) | (with_reducible assumption) | (with_reducible refine ex_drewL ?_) | (with_reducible refine ex_appR ?_ _) | (with_reducible refine ex_wx ?_ _) | (with_reducible refine ex_drew ?_) | (with_reducible refine ex_alloc ?_ _))))).2.2.1.mono ?_); rintro e w' ⟨rfl, X5, rfl⟩))
        have hln : ([] : List UInt8).length = 0 := rfl
        go_loopw [60] (fun i W => ∃ (q : Nat) (l' : List UInt8), q ≤ 0 ∧ i = I q ∧ l'.length = 0 ∧ Hid (OwnL W W6.heap.size (.slice none 0 0) l') ∧ Hid (Ex W6 W)) (fun i _ => 0 - (intOf i).toNat)
        case atStart => first | exact ⟨0, ([] : List UInt8), by omega, rfl, hln, Lib.hid (ownl_nil _ _), Lib.hid (by (try show Ex _ _); repeat (first | (with_reducible exact ex_refl _) | (with_reducible assumption) | (with_reducible refine ex_drewL ?_) | (with_reducible refine ex_appR ?_ _) | (with_reducible refine ex_wx ?_ _) | (with_reducible refine ex_drew ?_) | (with_reducible refine ex_alloc ?_ _)))⟩ | exact ⟨0, ([] : List UInt8), by omega, rfl, hln, Lib.hid (owns_low (OwnL.ex ho.out (by (try show Ex _ _); repeat (first | (with_reducible exact ex_refl _) | (with_reducible assumption) | (with_reducible refine ex_drewL ?_) | (with_reducible refine ex_appR ?_ _) | (with_reducible refine ex_wx ?_ _) | (with_reducible refine ex_drew ?_) | (with_reducible refine ex_alloc ?_ _)))) (by simp [go_sem] <;> omega)), Lib.hid (by (try show Ex _ _); repeat (first | (with_reducible exact ex_refl _) | (with_reducible assumption) | (with_reducible refine ex_drewL ?_) | (with_reducible refine ex_appR ?_ _) | (with_reducible refine ex_wx ?_ _) | (with_reducible refine ex_drew ?_) | (with_reducible refine ex_alloc ?_ _)))⟩
        case round =>
          obtain ⟨q, l', hq, rfl, hl', hO2, hE2⟩ := hrel
          by_cases hql : q < 0
          ·
            exfalso; omega
          · have hqe : q = 0 := by omega
            subst hqe
            clear hql hO2 hq hl'
            obtain ⟨X9, rfl⟩ := hE2.out
            go_wp2_with (go_at_call 21; (with_reducible refine ((HW.out _ _ (ex_trans HK6.out (by (try show Ex _ _); repeat (first | (with_reducible exact ex_refl _) | (with_reducible assumption) | (with_reducible refine ex_drewL ?_) | (with_reducible refine ex_appR ?_ _) | (with_reducible refine ex_wx ?_ _) | (with_reducible refine ex_drew ?_) | (with_reducible refine ex_alloc ?_ _)))) (hm1.out.ex (by (try show Ex _ _); repeat (first | (with_reducible exact ex_refl _) | (with_reducible assumption) | (with_reducible refine ex_drewL ?_) | (with_reducible refine ex_appR ?_ _) | (with_reducible refine ex_wx ?_ _) | (with_reducible refine ex_drew ?_) | (with_reducible refine ex_alloc ?_ _))))).2.2.2.2 _ (hm2.out.ex (by (try show Ex _ _); repeat (first | (with_reducible exact ex_refl _) | (with_reducible assumption) | (with_reducible refine ex_drewL ?_) | (with_reducible refine ex_appR ?_ _) | (with_reducible refine ex_wx ?_ _) | (with_reducible refine ex_drew ?_) | (with_reducible refine ex_alloc ?_ _))))).mono ?_); rintro e w' ⟨rfl, X9, rfl⟩)
            exact ⟨⟨k + 1, by omega, by go_num, Lib.hid (ex_trans hk5 (ex_trans hk6.out (by (try show Ex _ _); repeat (first | (with_reducible exact ex_refl _) | (with_reducible assumption) | (with_reducible refine ex_drewL ?_) | (with_reducible refine ex_appR ?_ _) | (with_reducible refine ex_wx ?_ _) | (with_reducible refine ex_drew ?_) | (with_reducible refine ex_alloc ?_ _)))))⟩, by simp [intOf]; omega⟩
    · obtain rfl : k = 2 := by omega
      clear hlt hk KX KY HZ HSx HSy HO1 HO2
      have KX' := Lib.hid (fun w' (k : Ex A w') => KXv.out w' (ex_trans hk0 k))
      have KY' := Lib.hid (fun w' (k : Ex A w') => KYv.out w' (ex_trans hk0 k))
      obtain ⟨X9, rfl⟩ := hAr.out
      clear KXv KYv
      go_wp2
      refine wp_region_fork (A) (.look 0 (.look 2 (.look 5 (.look 7 (.eff 1 (.eff 3 (.eff 4 (.eff 6 (.eff 8 (.eff 9 (.look 10 (.look 11 (.look 12 (.look 14 (.eff 13 (.eff 15 (.eff 16 (.look 17 (.look 18 .done))))))))))))))))))) (by (try show Ex _ _); repeat (first | (with_reducible exact ex_refl _) | (with_reducible assumption) | (with_reducible refine ex_drewL ?_) | (with_reducible refine ex_appR ?_ _) | (with_reducible refine ex_wx ?_ _) | (with_reducible refine ex_drew ?_) | (with_reducible refine ex_alloc ?_ _))) (by kernel_rfl) (by kernel_rfl) (fun _ _ d _ _ h => by cases d <;> exact h) ?_
      simp only [Fk.ops, nth]
      repeat (first | ((with_reducible refine wpFork_look ?_); go_big_quiet_step (fail); (try (with_reducible refine wpQuiet_nil ?_))) | (with_reducible refine wpFork_eff ?_) | ((with_reducible refine effT_F ?_ ?_); (focus rfl); go_simp) | ((with_reducible refine effT_T ?_ ?_); (focus rfl); (try dsimp only); go_wp2_with (first | (go_at_call 16; (with_reducible refine (KX'.out _ (by (try show Ex _ _); repeat (first | (with_reducible exact ex_refl _) | (with_reducible assumption) | (with_reducible refine ex_drewL ?_) | (with_reducible refine ex_appR ?_ _) | (with_reducible refine ex_wx ?_ _) | (with_reducible refine ex_drew ?_) | (with_reducible refine ex_alloc ?_ _)))).mono ?_); rintro e w' ⟨vx, rfl, hmx, X, rfl⟩; (try simp only [wx_wx, wx_drew] at hmx)) | (go_at_call 16; (with_reducible refine (KY'.out _ (by (try show Ex _ _); repeat (first | (with_reducible exact ex_refl _) | (with_reducible assumption) | (with_reducible refine ex_drewL ?_) | (with_reducible refine ex_appR ?_ _) | (with_reducible refine ex_wx ?_ _) | (with_reducible refine ex_drew ?_) | (with_reducible refine ex_alloc ?_ _)))).mono ?_); rintro e w' ⟨vy, rfl, hmy, X, rfl⟩; (try simp only [wx_wx, wx_drew] at hmy)) | (go_at_call 22; (with_reducible refine (same_any x2 y2 _ _ _ (MsV.ex (by assumption) (by (try show Ex _ _); repeat (first | (with_reducible exact ex_refl _) | (with_reducible assumption) | (with_reducible refine ex_drewL ?_) | (with_reducible refine ex_appR ?_ _) | (with_reducible refine ex_wx ?_ _) | (with_reducible refine ex_drew ?_) | (with_reducible refine ex_alloc ?_ _)))) (MsV.ex (by assumption) (by (try show Ex _ _); repeat (first | (with_reducible exact ex_refl _) | (with_reducible assumption) | (with_reducible refine ex_drewL ?_) | (with_reducible refine ex_appR ?_ _) | (with_reducible refine ex_wx ?_ _) | (with_reducible refine ex_drew ?_) | (with_reducible refine ex_alloc ?_ _))))).mono ?_); rintro e w' ⟨rfl, X, rfl⟩) | (go_at_call 21; (with_reducible refine (refsame_any x2 y2 _ _ _ (MsV.ex (by assumption) (by (try show Ex _ _); repeat (first | (with_reducible exact ex_refl _) | (with_reducible assumption) | (with_reducible refine ex_drewL ?_) | (with_reducible refine ex_appR ?_ _) | (with_reducible refine ex_wx ?_ _) | (with_reducible refine ex_drew ?_) | (with_reducible refine ex_alloc ?_ _)))) (MsV.ex (by assumption) (by (try show Ex _ _); repeat (first | (with_reducible exact ex_refl _) | (with_reducible assumption) | (with_reducible refine ex_drewL ?_) | (with_reducible refine ex_appR ?_ _) | (with_reducible refine ex_wx ?_ _) | (with_reducible refine ex_drew ?_) | (with_reducible refine ex_alloc ?_ _))))).mono ?_); rintro e w' ⟨rfl, X, rfl⟩) | (go_at_call 22; (with_reducible refine (same_any x2 x2 _ _ _ (MsV.ex (by assumption) (by (try show Ex _ _); repeat (first | (with_reducible exact ex_refl _) | (with_reducible assumption) | (with_reducible refine ex_drewL ?_) | (with_reducible refine ex_appR ?_ _) | (with_reducible refine ex_wx ?_ _) | (with_reducible refine ex_drew ?_) | (with_reducible refine ex_alloc ?_ _)))) (MsV.ex (by assumption) (by (try show Ex _ _); repeat (first | (with_reducible exact ex_refl _) | (with_reducible assumption) | (with_reducible refine ex_drewL ?_) | (with_reducible refine ex_appR ?_ _) | (with_reducible refine ex_wx ?_ _) | (with_reducible refine ex_drew ?_) | (with_reducible refine ex_alloc ?_ _))))).mono ?_); rw [sameM_self]; rintro e w' ⟨rfl, X, rfl⟩)); refine mixQ_mk (by (try show Ex _ _); repeat (first | (with_reducible exact ex_refl _) | (with_reducible assumption) | (with_reducible refine ex_drewL ?_) | (with_reducible refine ex_appR ?_ _) | (with_reducible refine ex_wx ?_ _) | (with_reducible refine ex_drew ?_) | (with_reducible refine ex_alloc ?_ _))) ?_))
      all_goals (with_reducible refine wpFork_nil ?_)
      all_goals
        go_wp2
        go_ret
        exact post_mk rfl (ex_trans hk0 (by (try show Ex _ _); repeat (first | (with_reducible exact ex_refl _) | (with_reducible assumption) | (with_reducible refine ex_drewL ?_) | (with_reducible refine ex_appR ?_ _) | (with_reducible refine ex_wx ?_ _) | (with_reducible refine ex_drew ?_) | (with_reducible refine ex_alloc ?_ _))))
end Go.Proofs.YtpcfkjeikhehaaaDoor
