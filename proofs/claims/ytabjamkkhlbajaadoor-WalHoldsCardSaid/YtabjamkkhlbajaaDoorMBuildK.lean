import Derived.Test.YtabjamkkhlbajaaDoorMDkR
import Derived.Laws.Tables
import Derived.Laws.EntriesVeiled

/- Writes that wait, built; a slice of one. -/
set_option linter.unusedSimpArgs false
set_option linter.unusedVariables false
set_option maxRecDepth 20000
namespace Go.Proofs.YtabjamkkhlbajaaDoor
open Go.RowKit
def build2Run (P : Program) (t : TypeId) (v u : Value) (w : World) : Result Next := ((Instr.build t #[(0, v), (1, u)]).run P w).andThen fun x w' => .ok (.value x) w'
@[go_sem ↓ high] theorem run_build2_pre {P : Program} (ρ : Operand → Value) (d : Option Tmp) (t : TypeId) (x y : Operand) (ty : TypeId) (pos : String) (aft : Array Edge) (g : Option (Nat × Bool)) (w : World) :
    Sem.run P (execOp ρ ⟨d, .build t #[(0, x), (1, y)], ty, pos, aft, g⟩) w = build2Run P t (ρ x) (ρ y) w := by
  simp only [execOp, Sem.run_bind, Sem.run_pure, build2Run, List.map_toArray, List.map_cons, List.map_nil]
@[go_sem low] theorem build2Run_other {P : Program} (t : TypeId) (v u : Value) (w : World) : build2Run P t v u w = ((Instr.build t #[(0, v), (1, u)]).run P w).andThen fun x w' => .ok (.value x) w' := rfl
theorem built_put (i : Int) (b : Bk) : Tryd.prog.built 113 [(0, I i), (1, .agg (rowB 64 (bkF b)))] = some (KQ (i, b)).toArray := by kernel_rfl
@[go_sem] theorem build2_put (i : Int) (b : Bk) (w : World) : build2Run Tryd.prog 113 (I i) (.agg (rowB 64 (bkF b))) w = .ok (.value (.agg (KQ (i, b)).toArray)) w := by
  unfold build2Run
  rw [run_build w _ _ _ (built_put i b)]; rfl
def buildRun (P : Program) (t : TypeId) (v : Value) (w : World) : Result Next := ((Instr.buildSlice t 1 #[(0, v)]).run P w).andThen fun x w' => .ok (.value x) w'
@[go_sem ↓ high] theorem run_build_pre {P : Program} (ρ : Operand → Value) (d : Option Tmp) (t : TypeId) (x : Operand) (ty : TypeId) (pos : String) (aft : Array Edge) (g : Option (Nat × Bool)) (w : World) :
    Sem.run P (execOp ρ ⟨d, .buildSlice t 1 #[(0, x)], ty, pos, aft, g⟩) w = buildRun P t (ρ x) w := by
  simp only [execOp, Sem.run_bind, Sem.run_pure, buildRun, List.map_toArray, List.map_cons, List.map_nil]
@[go_sem ↓ high] theorem run_buildR_pre {P : Program} (ro : Option Nat) (ρ : Operand → Value) (d : Option Tmp) (t : TypeId) (x : Operand) (ty : TypeId) (pos : String) (aft : Array Edge) (g : Option (Nat × Bool)) (w : World) :
    Sem.run P (Oper.semAt ro ρ ⟨d, .buildSlice t 1 #[(0, x)], ty, pos, aft, g⟩) w = buildRun P t (ρ x) w := by
  cases ro <;> exact run_build_pre ρ d t x ty pos aft g w
@[go_sem low] theorem buildRun_other {P : Program} (t : TypeId) (v : Value) (w : World) : buildRun P t v w = ((Instr.buildSlice t 1 #[(0, v)]).run P w).andThen fun x w' => .ok (.value x) w' := rfl
theorem buildRun_any {P : Program} {t e : TypeId} {s b : Nat} {z : Value} (T : AppT P t e s b z) (hs : s ≤ 1000000) (cs : Array Value) (hc : Instr.fill (fun i => some (i * s, s)) ((Array.range (1 * s)).map (z.cells[· % z.cells.size]!)) [(0, .agg cs)] = some cs) (w : World) :
    buildRun P t (.agg cs) w = .ok (.value (.slice (some ⟨w.heap.size, 0, none⟩) 1 1)) (w.alloc (.cells cs e)) := by
  obtain ⟨i, hi, h1, h2, h3⟩ := info_parts T.hi
  have hpos := T.hsz
  unfold buildRun
  subst h2
  simp only [Instr.buildSlice, run_underlying T.ht, Go.sizeOf, typeInfo, zeroValue, hi, h1, Sem.run_bind, Sem.run_pure, Result.andThen_ok, newRow]
  simp [hi, h1, show ¬ (2 ^ 24 < i.size) by omega, show i.size ≠ 0 by omega, Sem.run_bind, Result.andThen_ok, zeroValue, typeInfo]
  simp only [Nat.one_mul] at hc
  rw [hc]
  simp [newRow, go_sem]
theorem appPut : AppT Tryd.prog 87 113 65 72 (.agg zPut) := ⟨Tryd.underlying87, by kernel_rfl, zPut_size, by decide⟩
@[go_sem] theorem buildRun_put (p : Pt) (w : World) : buildRun Tryd.prog 87 (.agg (KQ p).toArray) w = .ok (.value (.slice (some ⟨w.heap.size, 0, none⟩) 1 1)) (w.alloc (.cells (KQ p).toArray 113)) :=
  buildRun_any appPut (by decide) _ (by kernel_rfl) w
end Go.Proofs.YtabjamkkhlbajaaDoor

/- Write. -/
set_option linter.unusedSimpArgs false
set_option linter.unusedVariables false
set_option maxRecDepth 20000
namespace Go.Proofs.YtabjamkkhlbajaaDoor
open Go.RowKit
/-- X where it holds what A holds, but for the blocks of a set; else A. -/
noncomputable def kp (A : World) (P : Nat → Prop) (X : World) : World := open Classical in if ∀ k, k < A.heap.size → ¬ P k → X.heap[k]? = A.heap[k]? then X else A
theorem kp_heap (A : World) (P : Nat → Prop) (X : World) {k : Nat} (h : k < A.heap.size) (h2 : ¬ P k) : (kp A P X).heap[k]? = A.heap[k]? := by
  unfold kp; split
  · rename_i h3; exact h3 k h h2
  · rfl
theorem kp_of {A X : World} {P : Nat → Prop} (h : ∀ k, k < A.heap.size → ¬ P k → X.heap[k]? = A.heap[k]?) : X = kp A P X := by
  unfold kp; rw [if_pos h]
noncomputable def kpFar (A : World) (P : Nat → Prop) (X : World) (a : Addr) : Option Value := (kp A P X).cell? a
noncomputable def kpFarN (A : World) (P : Nat → Prop) (X : World) (b i n : Nat) : Option (Array Value) := cellsN (kp A P X) b i n
open Classical in
@[go_sem high] theorem kp_cell (A : World) (P : Nat → Prop) (X : World) (b i : Nat) : (kp A P X).cell? ⟨b, i, none⟩ = if b < A.heap.size ∧ ¬ P b then A.cell? ⟨b, i, none⟩ else kpFar A P X ⟨b, i, none⟩ := by
  split
  · rename_i h; simp only [World.cell?, kp_heap A P X h.1 h.2]
  · rfl
open Classical in
@[go_sem high] theorem kp_cellsN (A : World) (P : Nat → Prop) (X : World) (b i n : Nat) : cellsN (kp A P X) b i n = if b < A.heap.size ∧ ¬ P b then cellsN A b i n else kpFarN A P X b i n := by
  split
  · rename_i h; exact cellsN_congr fun j _ => by simp only [World.cell?, kp_heap A P X h.1 h.2]
  · rfl
theorem Frm.apd {F : Nat → Prop} {w w' w'' : World} {v v' : Value} (h : Frm F w w') (k : Apd w' w'' v v') (hv : ∀ g, v.ownBlock = some g → F g) : Frm F w w'' :=
  h.trans ⟨k.os, k.tape, k.output, k.size, fun b hb hn => k.block b hb fun e => hn (hv b e)⟩
set_option maxHeartbeats 1000000 in
theorem writefn_any {W : World} {L : Loc} {d : Dk} (h : DkAt W L d) (i : Int) (b : Bk) (bd bi bb Z : Nat) (hi : 0 ≤ i ∧ i < d.has.length) (hq : d.qu.length < 1000000) (hZ : ∀ b, L.own b → b < Z) (z1 : Z ≤ bd) (z2 : Z ≤ bi) (z3 : Z ≤ bb)
    (hd : W.heap[bd]? = some (.cells #[PT L.p] 38 (0, 0))) (hb : W.heap[bi]? = some (.cells #[I i] 3 (0, 0))) (hr : W.heap[bb]? = some (.cells (rowB 64 (bkF b)) 75 (0, 0))) :
    Calls Tryd.prog 75 #[PT bd, PT bi, PT bb] W fun e W' => e = .returned (.tuple #[]) ∧ ∃ L', DkAt W' L' { d with qu := d.qu ++ [(i, b)] } ∧ Dv L W L' W' := by
  obtain ⟨qv, hM⟩ := h.out
  obtain ⟨P, hP⟩ : ∃ P : Nat → Prop, P = fun k => k = L.p ∨ L.q = some k := ⟨_, rfl⟩
  obtain ⟨⟨c0, c1, c2, c3, c4, c5⟩, hf, hz⟩ := hM.cells
  have f1 := hf 1
  have hdc := (block_cell (o := 0) (v := PT L.p) hd rfl).1
  have hbc := (block_cell (o := 0) (v := I i) hb rfl).1
  have hrc := (block_cells (n := 64) hr (by simp)).1
  have hbz := (Array.getElem?_eq_some_iff.1 hr).1
  have hdz := (Array.getElem?_eq_some_iff.1 hd).1
  have hiz := (Array.getElem?_eq_some_iff.1 hb).1
  have hnP : ∀ k, Z ≤ k → ¬ P k := fun k hk hp => by
    rw [hP] at hp
    rcases hp with rfl | hp
    · have := hZ L.p (Or.inl rfl); omega
    · have := hZ k (Or.inr (Or.inr hp)); omega
  have p1 := hnP bd z1
  have p2 := hnP bi z2
  have p3 := hnP bb z3
  have pp : P L.p := by rw [hP]; exact Or.inl rfl
  have pq : Hid (∀ g, qv.ownBlock = some g → P g) := Lib.hid fun g hg => by rw [hP]; exact Or.inr (hM.qb.symm.trans hg)
  have hpz := hZ L.p (Or.inl rfl)
  obtain ⟨qa, qc, hqv, _, _, _⟩ : ∃ a c, qv = .slice a d.qu.length c ∧ d.qu.length ≤ c ∧ c ≤ maxLen ∧ (a = none → c = 0) := by
    rcases hM.bq.2 with ⟨rfl, h0⟩ | ⟨g, cap, cur, rfl, h1, h2, h3, h4, h5, h6⟩
    · exact ⟨none, 0, by rw [h0], by omega, by decide, fun _ => rfl⟩
    · exact ⟨_, cap, rfl, h3, h4, fun h => by cases h⟩
  have HM := Lib.hid hM
  have HO := Lib.hid hM.bq
  have HP := Lib.hid hP
  have HI := Lib.hid hi
  have hWp : L.p < W.heap.size := hz
  have hne : (Value.slice qa d.qu.length qc).ownBlock ≠ some L.p := fun e => hM.pq (hM.qb.symm.trans (by rw [hqv]; exact e))
  have hne2 : (Value.slice qa d.qu.length qc).ownBlock ≠ some L.h := fun e => hM.hq (hM.qb.symm.trans (by rw [hqv]; exact e))
  have hWh := hM.lt (b := L.h) (Or.inr (Or.inl rfl))
  have HKl : (KQ (i, b)).length = 1 * 65 := by rw [KQ_len]
  have HK1 : ∀ u ∈ KQ (i, b), u.oneCell' = true := fun u hu => KQ_one [(i, b)] u (by simpa using hu)
  have hl1 : d.qu.length + 1 ≤ maxLen := by unfold maxLen; omega
  have hl2 : (d.qu.length + 1) * 72 ≤ 140737488355328 := by omega
  subst hqv
  clear h hM hd hb hr hf hP hnP c0 c2 c3 c4 c5 hi hZ
  go_enter Tryd.func75, Tryd.ntmps75
  go_wp2
  refine wp_region_forkH (fun w' => ∃ X, w' = kp W P X) (.look 0 (.look 1 (.look 2 (.look 3 (.look 5 (.look 6 (.look 7 (.fork 4 (.eff 8 (.eff 9 (.look 10 (.look 11 (.eff 12 .done))))) 8 (.eff 4 (.eff 9 (.look 10 (.look 11 (.eff 12 .done))))))))))))) (⟨_, kp_of (fun _ _ _ => rfl)⟩) (by kernel_rfl) (by kernel_rfl) (fun _ _ d _ _ h => by cases d <;> exact h) ?_
  simp only [Fk.ops, nth]
  repeat (first | ((with_reducible refine wpForkH_look ?_); go_big_quiet_step (fail); (try (with_reducible refine wpQuiet_nil ?_))) | (with_reducible refine wpForkH_eff ?_) | ((with_reducible refine effH_F ?_ ?_); (focus rfl); go_simp) | ((with_reducible refine effH_T ?_ ?_); (focus rfl); (try dsimp only); go_wp2_with ((at_builtin; refine wpApd (v := .slice qa d.qu.length qc) (n := d.qu.length) (xs := d.qu.flatMap KQ) (B := 0) appPut _ _ rfl rfl (owns_ex HO.out (by (try show Ex _ _); with_reducible repeat (first | exact ex_refl _ | assumption | refine ex_drewL ?_ | refine ex_appR ?_ _ | refine ex_wx ?_ _ | refine ex_drew ?_ | refine ex_alloc ?_ _))) rfl ⟨W.heap.size, 0, none⟩ 1 1 (KQ (i, b)) rfl HKl (news_alloc (w := W) (cs := (KQ (i, b)).toArray) (e := 113) rfl (by (try show Ex _ _); with_reducible repeat (first | exact ex_refl _ | assumption | refine ex_drewL ?_ | refine ex_appR ?_ _ | refine ex_wx ?_ _ | refine ex_drew ?_ | refine ex_alloc ?_ _))) HK1 hl1 hl2 (Nat.zero_le _) (fun v9 w9 hO9 hA9 => ?_); have F9 : Hid (Frm P W w9) := Lib.hid ((Frm.ex (F := P) (by (try show Ex _ _); with_reducible repeat (first | exact ex_refl _ | assumption | refine ex_drewL ?_ | refine ex_appR ?_ _ | refine ex_wx ?_ _ | refine ex_drew ?_ | refine ex_alloc ?_ _))).apd hA9 pq.out); have e9 : W.heap.size + 1 ≤ w9.heap.size := (by have := hA9.size; simp [go_sem] at this; omega); obtain ⟨g9, n9, rfl⟩ := ownsRow_succ hO9; have hp9 := (hA9.block L.p (Nat.lt_of_lt_of_le hWp (ex_size (by (try show Ex _ _); with_reducible repeat (first | exact ex_refl _ | assumption | refine ex_drewL ?_ | refine ex_appR ?_ _ | refine ex_wx ?_ _ | refine ex_drew ?_ | refine ex_alloc ?_ _)))) hne).trans (ex_block (by (try show Ex _ _); with_reducible repeat (first | exact ex_refl _ | assumption | refine ex_drewL ?_ | refine ex_appR ?_ _ | refine ex_wx ?_ _ | refine ex_drew ?_ | refine ex_alloc ?_ _)) HM.out.bp); obtain ⟨c9, f9⟩ := block_cell (o := 1) (v := .slice qa d.qu.length qc) hp9 rfl; have z9 := (Array.getElem?_eq_some_iff.1 hp9).1; have hh9 : Hid (w9.heap[L.h]? = W.heap[L.h]?) := Lib.hid ((hA9.block L.h (Nat.lt_of_lt_of_le hWh (ex_size (by (try show Ex _ _); with_reducible repeat (first | exact ex_refl _ | assumption | refine ex_drewL ?_ | refine ex_appR ?_ _ | refine ex_wx ?_ _ | refine ex_drew ?_ | refine ex_alloc ?_ _)))) hne2).trans ((ex_below (w := W) (by (try show Ex _ _); with_reducible repeat (first | exact ex_refl _ | assumption | refine ex_drewL ?_ | refine ex_appR ?_ _ | refine ex_wx ?_ _ | refine ex_drew ?_ | refine ex_alloc ?_ _))).block L.h hWh)); have ho9 : Hid (g9 ∈ L.q ∨ W.heap.size ≤ g9) := Lib.hid (by rcases hA9.own with e | ⟨g, e1, e2⟩; exact Or.inl (HM.out.qb.symm.trans e.symm); right; obtain rfl := Option.some.inj e1; exact Nat.le_trans (ex_size (by (try show Ex _ _); with_reducible repeat (first | exact ex_refl _ | assumption | refine ex_drewL ?_ | refine ex_appR ?_ _ | refine ex_wx ?_ _ | refine ex_drew ?_ | refine ex_alloc ?_ _))) e2); replace hp9 := Lib.hid hp9; replace hO9 := Lib.hid hO9; clear hA9)); (first | done | refine mixQH_mk (⟨_, kp_of (by first | exact (F9.out.set pp 1 _).same | exact F9.out.same | exact (Frm.ex (by (try show Ex _ _); with_reducible repeat (first | exact ex_refl _ | assumption | refine ex_drewL ?_ | refine ex_appR ?_ _ | refine ex_wx ?_ _ | refine ex_drew ?_ | refine ex_alloc ?_ _))).same)⟩) ?_)))
  all_goals (try (with_reducible refine wpForkH_fork ?_ ?_))
  all_goals repeat (first | ((with_reducible refine wpForkH_look ?_); go_big_quiet_step (fail); (try (with_reducible refine wpQuiet_nil ?_))) | (with_reducible refine wpForkH_eff ?_) | ((with_reducible refine effH_F ?_ ?_); (focus rfl); go_simp) | ((with_reducible refine effH_T ?_ ?_); (focus rfl); (try dsimp only); go_wp2_with ((at_builtin; refine wpApd (v := .slice qa d.qu.length qc) (n := d.qu.length) (xs := d.qu.flatMap KQ) (B := 0) appPut _ _ rfl rfl (owns_ex HO.out (by (try show Ex _ _); with_reducible repeat (first | exact ex_refl _ | assumption | refine ex_drewL ?_ | refine ex_appR ?_ _ | refine ex_wx ?_ _ | refine ex_drew ?_ | refine ex_alloc ?_ _))) rfl ⟨W.heap.size, 0, none⟩ 1 1 (KQ (i, b)) rfl HKl (news_alloc (w := W) (cs := (KQ (i, b)).toArray) (e := 113) rfl (by (try show Ex _ _); with_reducible repeat (first | exact ex_refl _ | assumption | refine ex_drewL ?_ | refine ex_appR ?_ _ | refine ex_wx ?_ _ | refine ex_drew ?_ | refine ex_alloc ?_ _))) HK1 hl1 hl2 (Nat.zero_le _) (fun v9 w9 hO9 hA9 => ?_); have F9 : Hid (Frm P W w9) := Lib.hid ((Frm.ex (F := P) (by (try show Ex _ _); with_reducible repeat (first | exact ex_refl _ | assumption | refine ex_drewL ?_ | refine ex_appR ?_ _ | refine ex_wx ?_ _ | refine ex_drew ?_ | refine ex_alloc ?_ _))).apd hA9 pq.out); have e9 : W.heap.size + 1 ≤ w9.heap.size := (by have := hA9.size; simp [go_sem] at this; omega); obtain ⟨g9, n9, rfl⟩ := ownsRow_succ hO9; have hp9 := (hA9.block L.p (Nat.lt_of_lt_of_le hWp (ex_size (by (try show Ex _ _); with_reducible repeat (first | exact ex_refl _ | assumption | refine ex_drewL ?_ | refine ex_appR ?_ _ | refine ex_wx ?_ _ | refine ex_drew ?_ | refine ex_alloc ?_ _)))) hne).trans (ex_block (by (try show Ex _ _); with_reducible repeat (first | exact ex_refl _ | assumption | refine ex_drewL ?_ | refine ex_appR ?_ _ | refine ex_wx ?_ _ | refine ex_drew ?_ | refine ex_alloc ?_ _)) HM.out.bp); obtain ⟨c9, f9⟩ := block_cell (o := 1) (v := .slice qa d.qu.length qc) hp9 rfl; have z9 := (Array.getElem?_eq_some_iff.1 hp9).1; have hh9 : Hid (w9.heap[L.h]? = W.heap[L.h]?) := Lib.hid ((hA9.block L.h (Nat.lt_of_lt_of_le hWh (ex_size (by (try show Ex _ _); with_reducible repeat (first | exact ex_refl _ | assumption | refine ex_drewL ?_ | refine ex_appR ?_ _ | refine ex_wx ?_ _ | refine ex_drew ?_ | refine ex_alloc ?_ _)))) hne2).trans ((ex_below (w := W) (by (try show Ex _ _); with_reducible repeat (first | exact ex_refl _ | assumption | refine ex_drewL ?_ | refine ex_appR ?_ _ | refine ex_wx ?_ _ | refine ex_drew ?_ | refine ex_alloc ?_ _))).block L.h hWh)); have ho9 : Hid (g9 ∈ L.q ∨ W.heap.size ≤ g9) := Lib.hid (by rcases hA9.own with e | ⟨g, e1, e2⟩; exact Or.inl (HM.out.qb.symm.trans e.symm); right; obtain rfl := Option.some.inj e1; exact Nat.le_trans (ex_size (by (try show Ex _ _); with_reducible repeat (first | exact ex_refl _ | assumption | refine ex_drewL ?_ | refine ex_appR ?_ _ | refine ex_wx ?_ _ | refine ex_drew ?_ | refine ex_alloc ?_ _))) e2); replace hp9 := Lib.hid hp9; replace hO9 := Lib.hid hO9; clear hA9)); (first | done | refine mixQH_mk (⟨_, kp_of (by first | exact (F9.out.set pp 1 _).same | exact F9.out.same | exact (Frm.ex (by (try show Ex _ _); with_reducible repeat (first | exact ex_refl _ | assumption | refine ex_drewL ?_ | refine ex_appR ?_ _ | refine ex_wx ?_ _ | refine ex_drew ?_ | refine ex_alloc ?_ _))).same)⟩) ?_)))
  all_goals (with_reducible refine wpForkH_nil ?_)
  all_goals
    go_wp2
    go_end0
    have hgp : g9 ≠ L.p := by
      rintro rfl
      rcases ho9.out with e | e
      · exact HM.out.pq e
      · omega
    have hgh : g9 ≠ L.h := by
      rintro rfl
      rcases ho9.out with e | e
      · exact HM.out.hq e
      · omega
    refine ⟨rfl, ⟨L.p, L.h, some g9⟩, ⟨.slice (some ⟨g9, 0, none⟩) (d.qu.length + 1) n9, ?_⟩, ?_⟩
    · have hM := HM.out
      refine ⟨?_, ?_, ?_, rfl, hM.ph, fun e => hgp (Option.some.inj e), fun e => hgh (Option.some.inj e), ?_⟩
      · rw [setCell_block _ hp9.out]
        rfl
      · exact owns_same hM.bh fun k hk => by
          obtain rfl : L.h = k := Option.some.inj hk
          exact (setCell_heap _ (Ne.symm hM.ph)).trans hh9.out
      · have hO := hO9.out
        have e1 : (d.qu ++ [(i, b)]).length = d.qu.length + 1 := by rw [List.length_append, List.length_singleton]
        have e2 : (d.qu ++ [(i, b)]).flatMap KQ = d.qu.flatMap KQ ++ KQ (i, b) := by rw [List.flatMap_append]; simp
        rw [← e2, ← e1] at hO
        rw [← e1]
        exact owns_same hO fun k hk => by
          obtain rfl : g9 = k := Option.some.inj hk
          exact setCell_heap _ hgp
      · obtain ⟨o1, o2, o3, o4, o5, o6, o7, o8, o9⟩ := hM.ok
        refine ⟨o1, o2, ?_, ?_, o5, o6, o7, o8, o9⟩
        · show (d.qu ++ [(i, b)]).length ≤ _
          rw [List.length_append, List.length_singleton]; omega
        · intro q hq2
          rcases List.mem_append.1 hq2 with hq2 | hq2
          · exact o4 q hq2
          · obtain rfl : q = (i, b) := by simpa using hq2
            exact HI.out
    · have hF := F9.out.set pp 1 (.slice (some ⟨g9, 0, none⟩) (d.qu.length + 1) n9)
      refine ⟨hF.os, hF.tape, hF.output, hF.size, fun k hk hn => hF.same k hk fun e => hn ?_, rfl, rfl, fun g hg => ?_⟩
      · rw [HP.out] at e
        rcases e with rfl | e
        · exact Or.inl rfl
        · exact Or.inr (Or.inr e)
      · obtain rfl : g9 = g := Option.some.inj hg
        exact ho9.out
theorem DkAt.ops {W : World} {L : Loc} {d : Dk} (h : DkAt W L d) : W.cell? ⟨L.p, 5, none⟩ = some (I (d.ops : Nat)) ∧ W.frozen? ⟨L.p, 5, none⟩ = false ∧ L.p < W.heap.size := by
  obtain ⟨qv, hM⟩ := h.out
  obtain ⟨⟨c0, c1, c2, c3, c4, c5⟩, hf, hz⟩ := hM.cells
  exact ⟨c5, hf 5, hz⟩
set_option maxHeartbeats 1000000 in
theorem write_any {w : World} {L : Loc} {d : Dk} (h : DkAt w L d) (i : Int) (b : Bk) (h1 : -9223372036854775808 ≤ i) (h2 : i < 9223372036854775808) (hops : d.ops < 1000000000) (hq : d.qu.length < 1000000) :
    Calls Tryd.prog 59 #[PT L.p, I i, .agg (rowB 64 (bkF b))] w (PostD w L (writeD d i b).1 (I (writeD d i b).2)) := by
  obtain ⟨w1, hw1⟩ : ∃ w1, ((w.alloc (.cells #[PT L.p] 38)).alloc (.cells #[I i] 3)).alloc (.cells (rowB 64 (bkF b)) 75) = w1 := ⟨_, rfl⟩
  have k1 : Ex w w1 := by rw [← hw1]; exact ex_alloc (ex_alloc (ex_alloc (ex_refl _) _) _) _
  obtain ⟨Z, hZ⟩ : ∃ Z, Z = w.heap.size := ⟨_, rfl⟩
  have hs1 : w1.heap.size = Z + 3 := by rw [← hw1, hZ]; simp [go_sem]
  have r0 : w1.heap[Z]? = some (.cells #[PT L.p] 38 (0, 0)) := by rw [← hw1, hZ]; exact ex_block (ex_alloc (ex_alloc (ex_refl _) _) _) (heap_alloc_new w _)
  have r1 : w1.heap[Z + 1]? = some (.cells #[I i] 3 (0, 0)) := by
    rw [← hw1, hZ]
    have := ex_block (ex_alloc (ex_refl _) (.cells (rowB 64 (bkF b)) 75)) (heap_alloc_new (w.alloc (.cells #[PT L.p] 38)) (.cells #[I i] 3))
    simpa only [World.size_alloc] using this
  have r2 : w1.heap[Z + 2]? = some (.cells (rowB 64 (bkF b)) 75 (0, 0)) := by
    rw [← hw1, hZ]
    have := heap_alloc_new ((w.alloc (.cells #[PT L.p] 38)).alloc (.cells #[I i] 3)) (.cells (rowB 64 (bkF b)) 75)
    simpa only [World.size_alloc] using this
  have hown : ∀ b, L.own b → b < Z := fun b hb => by rw [hZ]; exact h.lt hb
  have HQ : Calls Tryd.prog 60 #[PT L.p, I i, .bool true, .func (.func 75) #[] #[PT Z, PT (Z + 1), PT (Z + 2)]] w1 (PostD w L (writeD d i b).1 (I (writeD d i b).2)) := by
    refine (requestW_any (h.ex k1) i h1 h2 true _ (fun W => ∃ L', DkAt W L' { (reqD d i true).1 with qu := d.qu ++ [(i, b)] } ∧ Dv L w L' W) hops ?_ ?_).mono ?_
    · intro hr W hW hD
      have hin := req_in hr
      have hsm := req_same d i true
      have hsame : ∀ b, b < Z + 3 → Z ≤ b → W.heap[b]? = w1.heap[b]? := fun b hb hz => hD.same b (by omega) fun e => by have := hown b e; omega
      have hin2 : 0 ≤ i ∧ i < (reqD d i true).1.has.length := by rw [hsm.1]; exact hin
      refine (writefn_any hW i b Z (Z + 1) (Z + 2) Z hin2 (by rw [hsm.2.1]; exact hq) hown (Nat.le_refl _) (by omega) (by omega) ((hsame Z (by omega) (by omega)).trans r0) ((hsame (Z + 1) (by omega) (by omega)).trans r1) ((hsame (Z + 2) (by omega) (by omega)).trans r2)).mono ?_
      rintro e W' ⟨rfl, L', hD', hV⟩
      rw [hsm.2.1] at hD'
      exact ⟨rfl, L', hD', ((Dv.ofEx k1).trans hD).trans hV⟩
    · rintro W ⟨L', hW, hV⟩
      have hW := hW.ops
      rw [hV.pp] at hW
      have hsm := (req_same d i true).2.2
      exact ⟨by rw [← hsm]; exact hW.1, hW.2⟩
    · rintro e w' (⟨hr, rfl, hW, hD⟩ | ⟨hr, rfl, W, ⟨L', hW, hD⟩, rfl⟩)
      · have hrd : writeD d i b = reqD d i true := by unfold writeD; rw [if_neg hr]
        rw [hrd]
        exact ⟨L, rfl, hW, (Dv.ofEx k1).trans hD⟩
      · have hrd : writeD d i b = (incD { (reqD d i true).1 with qu := d.qu ++ [(i, b)] }, 0) := by unfold writeD; rw [if_pos hr]
        rw [hrd]
        obtain ⟨qv, hM⟩ := hW.out
        refine ⟨L', rfl, ⟨qv, ?_⟩, ?_⟩
        · have := hM.setOps (n := d.ops + 1) (by omega)
          rw [hD.pp] at this
          unfold incD
          simp only
          rw [(req_same d i true).2.2]
          exact this
        · have := hD.setP 5 (I ((d.ops : Int) + 1))
          rw [hD.pp] at this
          exact this
  have HQ2 : Hid (Calls Tryd.prog 60 #[PT L.p, I i, .bool true, .func (.func 75) #[] #[PT w.heap.size, PT (w.heap.size + 1), PT (w.heap.size + 2)]]
      (((w.alloc (.cells #[PT L.p] 38)).alloc (.cells #[I i] 3)).alloc (.cells (rowB 64 (bkF b)) 75)) (PostD w L (writeD d i b).1 (I (writeD d i b).2))) := Lib.hid (by rw [hw1, ← hZ]; exact HQ)
  clear hw1 r0 r1 r2 hown k1 h HQ hs1 hZ
  go_enter Tryd.func59, Tryd.ntmps59
  go_wp2_with (go_at_call 60; (with_reducible refine HQ2.out.mono ?_); rintro e w2 ⟨L', rfl, hW, hD⟩; replace hW := Lib.hid hW; replace hD := Lib.hid hD)
  go_ret
  exact ⟨L', rfl, hW.out, hD.out⟩
end Go.Proofs.YtabjamkkhlbajaaDoor

/- Writes of the queue that are done. -/
set_option linter.unusedSimpArgs false
set_option linter.unusedVariables false
set_option maxRecDepth 20000
namespace Go.Proofs.YtabjamkkhlbajaaDoor
open Go.RowKit
theorem doQ_snoc (is : Nat → Bool) (p : Pt) : ∀ (l : List Pt) (has : List Bk) (k : Nat), doQ has k (l ++ [p]) is = if is (k + l.length) = true then (doQ has k l is).set p.1.toNat p.2 else doQ has k l is
  | [], has, k => by simp [doQ]
  | q :: r, has, k => by
    rw [List.cons_append]
    unfold doQ
    rw [doQ_snoc is p r _ (k + 1), show k + 1 + r.length = k + (q :: r).length by simp; omega]
theorem doQ_take (is : Nat → Bool) (has : List Bk) (l : List Pt) {k : Nat} {p : Pt} (h : l[k]? = some p) : doQ has 0 (l.take (k + 1)) is = if is k = true then (doQ has 0 (l.take k) is).set p.1.toNat p.2 else doQ has 0 (l.take k) is := by
  have hk := (List.getElem?_eq_some_iff.1 h).1
  have hp := (List.getElem?_eq_some_iff.1 h).2
  rw [List.take_succ_eq_append_getElem hk, hp, doQ_snoc, Nat.zero_add, List.length_take, Nat.min_eq_left (by omega)]
theorem KQ_row {W : World} {b : Nat} {p : Pt} (hB : W.heap[b]? = some (.cells (KQ p).toArray 113 (0, 0))) : W.cell? ⟨b, 0, none⟩ = some (I p.1) ∧ cellsN W b 1 64 = some (rowB 64 (bkF p.2)) := by
  have b1 := (block_cells (n := 65) hB (by simp [KQ_len])).1
  refine ⟨(block_cell (o := 0) (v := I p.1) hB rfl).1, ?_⟩
  rw [← KQ_blk]
  refine cellsN_some.2 ⟨by simp [KQ_len], fun j hj => ?_⟩
  have := (cellsN_some.1 b1).2 (1 + j) (by omega)
  rw [Nat.zero_add] at this
  rw [this, Array.getElem?_extract]
  simp only [List.size_toArray, KQ_len, Nat.min_self, if_pos (show j < 65 - 1 by omega)]
theorem DkM.setHas {w : World} {L : Loc} {d : Dk} {qv : Value} (h : DkM w L d qv) {q : Nat} (hq : q < d.has.length) (x : Bk) : DkM (w.setCells L.h (q * 64) (KK x)) L { d with has := d.has.set q x } qv := by
  have hl : (d.has.set q x).length = d.has.length := List.length_set
  have hk : ∀ b, b ≠ L.h → (w.setCells L.h (q * 64) (KK x)).heap[b]? = w.heap[b]? := fun b hb => setCells_heap _ _ _ _ _ hb
  obtain ⟨o1, o2, o3, o4, o5, o6, o7, o8, o9⟩ := h.ok
  refine ⟨?_, ?_, owns_same h.bq fun b hb => hk b ?_, h.qb, h.ph, h.pq, h.hq, ⟨by rw [hl]; exact o1, by rw [hl]; exact o2, o3, fun p hp => by rw [hl]; exact o4 p hp, o5, o6, o7, o8, o9⟩⟩
  · rw [hk _ h.ph, hl]; exact h.bp
  · have := (own_set KK_len (by omega) h.bh x hq).1
    rw [hl]; exact this
  · rintro rfl
    exact h.hq (h.qb.symm.trans hb)
set_option maxHeartbeats 2000000 in
theorem doesS_any {w : World} {L : Loc} {d : Dk} (h : DkAt w L d)  (is : Nat → Bool)
    (HI : ∀ W, Dv L w L W → ∀ k : Nat, k < d.qu.length → Calls Tryd.prog 62 #[I k] W (Post W (.bool (is k)))) :
    Calls Tryd.prog 52 #[PT L.p, .func (.func 62) #[] #[]] w fun e w' => e = .returned (.tuple #[]) ∧ ∃ L', DkAt w' L' { d with has := doQ d.has 0 d.qu is, qu := [] } ∧ Dv L w L' w' := by
  obtain ⟨qv, hM⟩ := h.out
  have hok := hM.ok
  obtain ⟨qa, qc, hqv, _, _, _⟩ : ∃ a c, qv = .slice a d.qu.length c ∧ d.qu.length ≤ c ∧ c ≤ maxLen ∧ (a = none → c = 0) := by
    rcases hM.bq.2 with ⟨rfl, h0⟩ | ⟨g, cap, cur, rfl, h1, h2, h3, h4, h5, h6⟩
    · exact ⟨none, 0, by rw [h0], by omega, by decide, fun _ => rfl⟩
    · exact ⟨_, cap, rfl, h3, h4, fun h => by cases h⟩
  subst hqv
  obtain ⟨⟨c0, c1, c2, c3, c4, c5⟩, hf, hz⟩ := hM.cells
  have HM := Lib.hid hM
  have HI := Lib.hid HI
  have hqn := hok.qn
  have hqr := Lib.hid hok.qr
  have hn2 := hok.n2
  clear h hM hf c0 c2 c3 c4 c5
  go_enter Tryd.func52, Tryd.ntmps52
  go_wp2
  clear c1 hz
  go_loopw [11] (fun i wr => ∃ k : Nat, k ≤ d.qu.length ∧ i = I k ∧ Hid (DkM wr L { d with has := doQ d.has 0 (d.qu.take k) is } (.slice qa d.qu.length qc)) ∧ Hid (Dv L w L wr)) (fun i _ => d.qu.length - (intOf i).toNat)
  case atStart => exact ⟨0, by omega, rfl, Lib.hid (by rw [List.take_zero]; exact HM.out), Lib.hid (Dv.refl _ _)⟩
  case round =>
    obtain ⟨k, hk, rfl, hW, hV⟩ := hrel
    by_cases hlt : k < d.qu.length
    · obtain ⟨x, hx⟩ : ∃ x, d.qu[k]? = some x := ⟨_, List.getElem?_eq_getElem hlt⟩
      have hst := Lib.hid (doQ_take is d.has d.qu hx)
      have hxr := hqr.out x (List.mem_of_getElem? hx)
      have hM := hW.out
      obtain ⟨g, cap, cur, hv, _⟩ := own_block hM.bq (by show 0 < d.qu.length; omega) (by omega)
      obtain ⟨rfl, rfl⟩ : qa = some ⟨g, 0, none⟩ ∧ qc = cap := by simpa using hv
      have hcx := (own_at KQ_len hM.bq hx).1
      have hlt2 : (k : Int) < d.qu.length := by omega
      have hall : ∀ y, y ∈ KQ x → y.oneCell' = true := fun u hu => KQ_one [x] u (by simpa using hu)
      have hgz : g < wr.heap.size := hM.lt (Or.inr (Or.inr (hM.qb.symm.trans rfl)))
      have Hx := Lib.hid hx
      have HV0 := hV.out
      have hlen : (doQ d.has 0 (d.qu.take k) is).length = d.has.length := doQ_len _ _ _ _
      clear hv hx hM hV
      generalize doQ d.has 0 (d.qu.take k) is = hs at *
      cases hik : is k with
      | true =>
        rw [if_pos hik] at hst
        have HIk := Lib.hid (fun W (kk : Ex wr W) => HI.out W (HV0.grow kk) k hlt)
        rw [hik] at HIk
        replace HV0 := Lib.hid HV0
        go_wp2_with (go_at_call 62; (with_reducible refine (HIk.out _ (by (try show Ex _ _); with_reducible repeat (first | exact ex_refl _ | assumption | refine ex_drewL ?_ | refine ex_appR ?_ _ | refine ex_wx ?_ _ | refine ex_drew ?_ | refine ex_alloc ?_ _))).mono ?_); rintro e w2 ⟨rfl, X2, rfl⟩)
        obtain ⟨W3, hW3⟩ : ∃ W3, wx (wr.alloc (.cells (KQ x).toArray 113)) X2 = W3 := ⟨_, rfl⟩
        obtain ⟨b5, hb5⟩ : ∃ b5, b5 = wr.heap.size := ⟨_, rfl⟩
        have K3 : Ex wr W3 := by rw [← hW3]; exact ex_wx (ex_alloc (ex_refl _) _) _
        have B5 : W3.heap[b5]? = some (.cells (KQ x).toArray 113 (0, 0)) := by rw [← hW3, hb5]; exact ex_block ⟨X2, rfl⟩ (heap_alloc_new wr _)
        rw [hW3, ← hb5]
        clear hW3
        have hM := hW.out.ex K3
        have V3 := Lib.hid (HV0.out.grow K3)
        obtain ⟨⟨c0, c1, c2, c3, c4, c5⟩, hf, hz⟩ := hM.cells
        obtain ⟨b0, b1⟩ := KQ_row B5
        have hb5z := (Array.getElem?_eq_some_iff.1 B5).1
        have hbh : b5 ≠ L.h := by
          have := hW.out.lt (b := L.h) (Or.inr (Or.inl rfl))
          omega
        obtain ⟨x1, x2⟩ := x
        obtain ⟨q, rfl⟩ : ∃ q : Nat, x1 = (q : Int) := ⟨x1.toNat, by have := hxr.1; simp only at this; omega⟩
        simp only [hlen] at c0
        simp only at b0 b1 hxr
        have hq1 : q < hs.length := by rw [hlen]; omega
        have hq2 : (q : Int) < d.has.length := hxr.2
        obtain ⟨y, hy⟩ : ∃ y, hs[q]? = some y := ⟨_, List.getElem?_eq_getElem hq1⟩
        obtain ⟨h1, h2, _, _⟩ := own_at KK_len hM.bh hy
        obtain ⟨P, hP⟩ : ∃ P : Nat → Prop, P = fun k => k = L.h := ⟨_, rfl⟩
        have p1 : ¬ P L.p := by rw [hP]; exact hM.ph
        have p2 : ¬ P b5 := by rw [hP]; exact hbh
        have pp : P L.h := by rw [hP]
        have hOs := own_set KK_len (by omega) hM.bh x2 (i := q) hq1
        have HM3 := Lib.hid hM
        have HOs := Lib.hid hOs.1
        have F9 := Lib.hid (Frm.refl P W3)
        replace hP := Lib.hid hP
        clear hM hf c1 c2 c3 c4 c5 hOs hW HV0 HIk K3 hbh hb5
        go_wp2
        refine wp_region_forkH (fun w' => ∃ X, w' = kp W3 P X) (.look 0 (.look 1 (.look 2 (.look 3 (.look 4 (.look 5 (.look 6 (.look 7 (.look 8 (.eff 9 .done)))))))))) (⟨_, kp_of (fun _ _ _ => rfl)⟩) (by kernel_rfl) (by kernel_rfl) (fun _ _ d _ _ h => by cases d <;> exact h) ?_
        simp only [Fk.ops, nth]
        repeat (first | ((with_reducible refine wpForkH_look ?_); go_big_quiet_step (fail); (try (with_reducible refine wpQuiet_nil ?_))) | (with_reducible refine wpForkH_eff ?_) | ((with_reducible refine effH_F ?_ ?_); (focus rfl); go_simp) | ((with_reducible refine effH_T ?_ ?_); (focus rfl); (try dsimp only); go_wp2_with (fail); (first | done | refine mixQH_mk (⟨_, kp_of (by first | (with_reducible exact ((F9.out.sets pp _ _).trans (Frm.ex (ex_drew (ex_refl _)))).same) | (with_reducible exact (F9.out.sets pp _ _).same))⟩) ?_)))
        all_goals (with_reducible refine wpForkH_nil ?_)
        go_wp2
        have hMf := HM3.out.setHas (q := q) hq1 x2
        have hDf : Dv L w L (W3.setCells L.h (q * 64) (rowB 64 (bkF x2)).toList).drew := (V3.out.sets (Or.inr (Or.inl rfl)) _ _).grow (ex_drew (ex_refl _))
        simp only [Int.toNat_natCast] at hst
        exact ⟨⟨k + 1, by omega, by go_num, Lib.hid (by rw [hst.out]; exact DkM.ex hMf (ex_drew (ex_refl _))), Lib.hid hDf⟩, by simp [intOf]; omega⟩
      | false =>
        rw [if_neg (by simp [hik])] at hst
        have HIk := Lib.hid (fun W (kk : Ex wr W) => HI.out W (HV0.grow kk) k hlt)
        rw [hik] at HIk
        replace HV0 := Lib.hid HV0
        go_wp2_with (go_at_call 62; (with_reducible refine (HIk.out _ (by (try show Ex _ _); with_reducible repeat (first | exact ex_refl _ | assumption | refine ex_drewL ?_ | refine ex_appR ?_ _ | refine ex_wx ?_ _ | refine ex_drew ?_ | refine ex_alloc ?_ _))).mono ?_); rintro e w2 ⟨rfl, X2, rfl⟩)
        exact ⟨⟨k + 1, by omega, by go_num, Lib.hid (by rw [hst.out]; exact hW.out.ex (by (try show Ex _ _); with_reducible repeat (first | exact ex_refl _ | assumption | refine ex_drewL ?_ | refine ex_appR ?_ _ | refine ex_wx ?_ _ | refine ex_drew ?_ | refine ex_alloc ?_ _))), Lib.hid (HV0.out.grow (by (try show Ex _ _); with_reducible repeat (first | exact ex_refl _ | assumption | refine ex_drewL ?_ | refine ex_appR ?_ _ | refine ex_wx ?_ _ | refine ex_drew ?_ | refine ex_alloc ?_ _)))⟩, by simp [intOf]; omega⟩
    · obtain rfl : k = d.qu.length := by omega
      rw [List.take_length] at hW
      have hM := hW.out
      obtain ⟨⟨c0, c1, c2, c3, c4, c5⟩, hf, hz⟩ := hM.cells
      have f1 := hf 1
      clear hM hf c0 c2 c3 c4 c5 hlt
      go_wp2
      go_end0
      refine ⟨rfl, ⟨L.p, L.h, none⟩, ⟨.slice none 0 0, ?_⟩, ?_⟩
      · have hM := hW.out
        refine ⟨?_, ?_, owns_nil _ _ _ _, rfl, hM.ph, (fun e => by cases e), (fun e => by cases e), ?_⟩
        · rw [setCell_block _ hM.bp]; rfl
        · exact owns_same hM.bh fun k hk => by
            obtain rfl : L.h = k := Option.some.inj hk
            exact setCell_heap _ (Ne.symm hM.ph)
        · obtain ⟨o1, o2, o3, o4, o5, o6, o7, o8, o9⟩ := hM.ok
          exact ⟨o1, o2, by simp, by simp, o5, o6, o7, o8, o9⟩
      · have hD := hV.out.setP 1 (.slice none 0 0)
        exact ⟨hD.os, hD.tape, hD.output, hD.size, hD.same, rfl, rfl, fun g hg => by cases hg⟩
set_option maxHeartbeats 2000000 in
theorem doesC_any {w : World} {L : Loc} {d : Dk} (h : DkAt w L d) (b6 b5 : Nat) (is : Nat → Bool)
    (HI : ∀ W, Dv L w L W → ∀ k : Nat, k < d.qu.length → Calls Tryd.prog 53 #[I k, PT b6, PT b5] W (Post W (.bool (is k)))) :
    Calls Tryd.prog 52 #[PT L.p, .func (.func 53) #[] #[PT b6, PT b5]] w fun e w' => e = .returned (.tuple #[]) ∧ ∃ L', DkAt w' L' { d with has := doQ d.has 0 d.qu is, qu := [] } ∧ Dv L w L' w' := by
  obtain ⟨qv, hM⟩ := h.out
  have hok := hM.ok
  obtain ⟨qa, qc, hqv, _, _, _⟩ : ∃ a c, qv = .slice a d.qu.length c ∧ d.qu.length ≤ c ∧ c ≤ maxLen ∧ (a = none → c = 0) := by
    rcases hM.bq.2 with ⟨rfl, h0⟩ | ⟨g, cap, cur, rfl, h1, h2, h3, h4, h5, h6⟩
    · exact ⟨none, 0, by rw [h0], by omega, by decide, fun _ => rfl⟩
    · exact ⟨_, cap, rfl, h3, h4, fun h => by cases h⟩
  subst hqv
  obtain ⟨⟨c0, c1, c2, c3, c4, c5⟩, hf, hz⟩ := hM.cells
  have HM := Lib.hid hM
  have HI := Lib.hid HI
  have hqn := hok.qn
  have hqr := Lib.hid hok.qr
  have hn2 := hok.n2
  clear h hM hf c0 c2 c3 c4 c5
  go_enter Tryd.func52, Tryd.ntmps52
  go_wp2
  clear c1 hz
  go_loopw [11] (fun i wr => ∃ k : Nat, k ≤ d.qu.length ∧ i = I k ∧ Hid (DkM wr L { d with has := doQ d.has 0 (d.qu.take k) is } (.slice qa d.qu.length qc)) ∧ Hid (Dv L w L wr)) (fun i _ => d.qu.length - (intOf i).toNat)
  case atStart => exact ⟨0, by omega, rfl, Lib.hid (by rw [List.take_zero]; exact HM.out), Lib.hid (Dv.refl _ _)⟩
  case round =>
    obtain ⟨k, hk, rfl, hW, hV⟩ := hrel
    by_cases hlt : k < d.qu.length
    · obtain ⟨x, hx⟩ : ∃ x, d.qu[k]? = some x := ⟨_, List.getElem?_eq_getElem hlt⟩
      have hst := Lib.hid (doQ_take is d.has d.qu hx)
      have hxr := hqr.out x (List.mem_of_getElem? hx)
      have hM := hW.out
      obtain ⟨g, cap, cur, hv, _⟩ := own_block hM.bq (by show 0 < d.qu.length; omega) (by omega)
      obtain ⟨rfl, rfl⟩ : qa = some ⟨g, 0, none⟩ ∧ qc = cap := by simpa using hv
      have hcx := (own_at KQ_len hM.bq hx).1
      have hlt2 : (k : Int) < d.qu.length := by omega
      have hall : ∀ y, y ∈ KQ x → y.oneCell' = true := fun u hu => KQ_one [x] u (by simpa using hu)
      have hgz : g < wr.heap.size := hM.lt (Or.inr (Or.inr (hM.qb.symm.trans rfl)))
      have Hx := Lib.hid hx
      have HV0 := hV.out
      have hlen : (doQ d.has 0 (d.qu.take k) is).length = d.has.length := doQ_len _ _ _ _
      clear hv hx hM hV
      generalize doQ d.has 0 (d.qu.take k) is = hs at *
      cases hik : is k with
      | true =>
        rw [if_pos hik] at hst
        have HIk := Lib.hid (fun W (kk : Ex wr W) => HI.out W (HV0.grow kk) k hlt)
        rw [hik] at HIk
        replace HV0 := Lib.hid HV0
        go_wp2_with (go_at_call 53; (with_reducible refine (HIk.out _ (by (try show Ex _ _); with_reducible repeat (first | exact ex_refl _ | assumption | refine ex_drewL ?_ | refine ex_appR ?_ _ | refine ex_wx ?_ _ | refine ex_drew ?_ | refine ex_alloc ?_ _))).mono ?_); rintro e w2 ⟨rfl, X2, rfl⟩)
        obtain ⟨W3, hW3⟩ : ∃ W3, wx (wr.alloc (.cells (KQ x).toArray 113)) X2 = W3 := ⟨_, rfl⟩
        obtain ⟨b5, hb5⟩ : ∃ b5, b5 = wr.heap.size := ⟨_, rfl⟩
        have K3 : Ex wr W3 := by rw [← hW3]; exact ex_wx (ex_alloc (ex_refl _) _) _
        have B5 : W3.heap[b5]? = some (.cells (KQ x).toArray 113 (0, 0)) := by rw [← hW3, hb5]; exact ex_block ⟨X2, rfl⟩ (heap_alloc_new wr _)
        rw [hW3, ← hb5]
        clear hW3
        have hM := hW.out.ex K3
        have V3 := Lib.hid (HV0.out.grow K3)
        obtain ⟨⟨c0, c1, c2, c3, c4, c5⟩, hf, hz⟩ := hM.cells
        obtain ⟨b0, b1⟩ := KQ_row B5
        have hb5z := (Array.getElem?_eq_some_iff.1 B5).1
        have hbh : b5 ≠ L.h := by
          have := hW.out.lt (b := L.h) (Or.inr (Or.inl rfl))
          omega
        obtain ⟨x1, x2⟩ := x
        obtain ⟨q, rfl⟩ : ∃ q : Nat, x1 = (q : Int) := ⟨x1.toNat, by have := hxr.1; simp only at this; omega⟩
        simp only [hlen] at c0
        simp only at b0 b1 hxr
        have hq1 : q < hs.length := by rw [hlen]; omega
        have hq2 : (q : Int) < d.has.length := hxr.2
        obtain ⟨y, hy⟩ : ∃ y, hs[q]? = some y := ⟨_, List.getElem?_eq_getElem hq1⟩
        obtain ⟨h1, h2, _, _⟩ := own_at KK_len hM.bh hy
        obtain ⟨P, hP⟩ : ∃ P : Nat → Prop, P = fun k => k = L.h := ⟨_, rfl⟩
        have p1 : ¬ P L.p := by rw [hP]; exact hM.ph
        have p2 : ¬ P b5 := by rw [hP]; exact hbh
        have pp : P L.h := by rw [hP]
        have hOs := own_set KK_len (by omega) hM.bh x2 (i := q) hq1
        have HM3 := Lib.hid hM
        have HOs := Lib.hid hOs.1
        have F9 := Lib.hid (Frm.refl P W3)
        replace hP := Lib.hid hP
        clear hM hf c1 c2 c3 c4 c5 hOs hW HV0 HIk K3 hbh hb5
        go_wp2
        refine wp_region_forkH (fun w' => ∃ X, w' = kp W3 P X) (.look 0 (.look 1 (.look 2 (.look 3 (.look 4 (.look 5 (.look 6 (.look 7 (.look 8 (.eff 9 .done)))))))))) (⟨_, kp_of (fun _ _ _ => rfl)⟩) (by kernel_rfl) (by kernel_rfl) (fun _ _ d _ _ h => by cases d <;> exact h) ?_
        simp only [Fk.ops, nth]
        repeat (first | ((with_reducible refine wpForkH_look ?_); go_big_quiet_step (fail); (try (with_reducible refine wpQuiet_nil ?_))) | (with_reducible refine wpForkH_eff ?_) | ((with_reducible refine effH_F ?_ ?_); (focus rfl); go_simp) | ((with_reducible refine effH_T ?_ ?_); (focus rfl); (try dsimp only); go_wp2_with (fail); (first | done | refine mixQH_mk (⟨_, kp_of (by first | (with_reducible exact ((F9.out.sets pp _ _).trans (Frm.ex (ex_drew (ex_refl _)))).same) | (with_reducible exact (F9.out.sets pp _ _).same))⟩) ?_)))
        all_goals (with_reducible refine wpForkH_nil ?_)
        go_wp2
        have hMf := HM3.out.setHas (q := q) hq1 x2
        have hDf : Dv L w L (W3.setCells L.h (q * 64) (rowB 64 (bkF x2)).toList).drew := (V3.out.sets (Or.inr (Or.inl rfl)) _ _).grow (ex_drew (ex_refl _))
        simp only [Int.toNat_natCast] at hst
        exact ⟨⟨k + 1, by omega, by go_num, Lib.hid (by rw [hst.out]; exact DkM.ex hMf (ex_drew (ex_refl _))), Lib.hid hDf⟩, by simp [intOf]; omega⟩
      | false =>
        rw [if_neg (by simp [hik])] at hst
        have HIk := Lib.hid (fun W (kk : Ex wr W) => HI.out W (HV0.grow kk) k hlt)
        rw [hik] at HIk
        replace HV0 := Lib.hid HV0
        go_wp2_with (go_at_call 53; (with_reducible refine (HIk.out _ (by (try show Ex _ _); with_reducible repeat (first | exact ex_refl _ | assumption | refine ex_drewL ?_ | refine ex_appR ?_ _ | refine ex_wx ?_ _ | refine ex_drew ?_ | refine ex_alloc ?_ _))).mono ?_); rintro e w2 ⟨rfl, X2, rfl⟩)
        exact ⟨⟨k + 1, by omega, by go_num, Lib.hid (by rw [hst.out]; exact hW.out.ex (by (try show Ex _ _); with_reducible repeat (first | exact ex_refl _ | assumption | refine ex_drewL ?_ | refine ex_appR ?_ _ | refine ex_wx ?_ _ | refine ex_drew ?_ | refine ex_alloc ?_ _))), Lib.hid (HV0.out.grow (by (try show Ex _ _); with_reducible repeat (first | exact ex_refl _ | assumption | refine ex_drewL ?_ | refine ex_appR ?_ _ | refine ex_wx ?_ _ | refine ex_drew ?_ | refine ex_alloc ?_ _)))⟩, by simp [intOf]; omega⟩
    · obtain rfl : k = d.qu.length := by omega
      rw [List.take_length] at hW
      have hM := hW.out
      obtain ⟨⟨c0, c1, c2, c3, c4, c5⟩, hf, hz⟩ := hM.cells
      have f1 := hf 1
      clear hM hf c0 c2 c3 c4 c5 hlt
      go_wp2
      go_end0
      refine ⟨rfl, ⟨L.p, L.h, none⟩, ⟨.slice none 0 0, ?_⟩, ?_⟩
      · have hM := hW.out
        refine ⟨?_, ?_, owns_nil _ _ _ _, rfl, hM.ph, (fun e => by cases e), (fun e => by cases e), ?_⟩
        · rw [setCell_block _ hM.bp]; rfl
        · exact owns_same hM.bh fun k hk => by
            obtain rfl : L.h = k := Option.some.inj hk
            exact setCell_heap _ (Ne.symm hM.ph)
        · obtain ⟨o1, o2, o3, o4, o5, o6, o7, o8, o9⟩ := hM.ok
          exact ⟨o1, o2, by simp, by simp, o5, o6, o7, o8, o9⟩
      · have hD := hV.out.setP 1 (.slice none 0 0)
        exact ⟨hD.os, hD.tape, hD.output, hD.size, hD.same, rfl, rfl, fun g hg => by cases hg⟩
end Go.Proofs.YtabjamkkhlbajaaDoor

/- Sync. -/
set_option linter.unusedSimpArgs false
set_option linter.unusedVariables false
set_option maxRecDepth 20000
namespace Go.Proofs.YtabjamkkhlbajaaDoor
open Go.RowKit
theorem yes_any (k : Nat) (w : World) : Calls Tryd.prog 62 #[I k] w (Post w (.bool true)) := by
  go_enter Tryd.func62, Tryd.ntmps62
  go_wp2
  go_ret
  exact post_mk' rfl (by (try show Ex _ _); with_reducible repeat (first | exact ex_refl _ | assumption | refine ex_drewL ?_ | refine ex_appR ?_ _ | refine ex_wx ?_ _ | refine ex_drew ?_ | refine ex_alloc ?_ _))
theorem syncfn_any {W : World} {L : Loc} {d : Dk} (h : DkAt W L d) (bd : Nat) (hd : W.heap[bd]? = some (.cells #[PT L.p] 38 (0, 0))) :
    Calls Tryd.prog 61 #[PT bd] W fun e W' => e = .returned (.tuple #[]) ∧ ∃ L', DkAt W' L' { d with has := doQ d.has 0 d.qu (fun _ => true), qu := [] } ∧ Dv L W L' W' := by
  have hdc := (block_cell (o := 0) (v := PT L.p) hd rfl).1
  have hdz := (Array.getElem?_eq_some_iff.1 hd).1
  have HD := Lib.hid (fun W' (k : Ex W W') => doesS_any (h.ex k) (fun _ => true) fun V _ k _ => yes_any k V)
  clear hd h
  go_enter Tryd.func61, Tryd.ntmps61
  go_wp2_with (go_at_call 52; (with_reducible refine (HD.out _ (by (try show Ex _ _); with_reducible repeat (first | exact ex_refl _ | assumption | refine ex_drewL ?_ | refine ex_appR ?_ _ | refine ex_wx ?_ _ | refine ex_drew ?_ | refine ex_alloc ?_ _))).mono ?_); rintro e w2 ⟨rfl, L', hW, hV⟩; replace hW := Lib.hid hW; replace hV := Lib.hid hV)
  go_end0
  exact ⟨rfl, L', hW.out, (Dv.ofEx (by (try show Ex _ _); with_reducible repeat (first | exact ex_refl _ | assumption | refine ex_drewL ?_ | refine ex_appR ?_ _ | refine ex_wx ?_ _ | refine ex_drew ?_ | refine ex_alloc ?_ _))).trans hV.out⟩
set_option maxHeartbeats 1000000 in
theorem sync_any {w : World} {L : Loc} {d : Dk} (h : DkAt w L d) (hops : d.ops < 1000000000) :
    Calls Tryd.prog 37 #[PT L.p] w (PostD w L (syncD d).1 (I (syncD d).2)) := by
  obtain ⟨w1, hw1⟩ : ∃ w1, w.alloc (.cells #[PT L.p] 38) = w1 := ⟨_, rfl⟩
  have k1 : Ex w w1 := by rw [← hw1]; exact ex_alloc (ex_refl _) _
  have r0 : w1.heap[w.heap.size]? = some (.cells #[PT L.p] 38 (0, 0)) := by rw [← hw1]; exact heap_alloc_new w _
  have hs1 : w.heap.size < w1.heap.size := (Array.getElem?_eq_some_iff.1 r0).1
  have hown : ∀ b, L.own b → b < w.heap.size := fun b hb => h.lt hb
  have HQ : Calls Tryd.prog 60 #[PT L.p, I 0, .bool true, .func (.func 61) #[] #[PT w.heap.size]] w1 (PostD w L (syncD d).1 (I (syncD d).2)) := by
    refine (requestS_any (h.ex k1) 0 (by omega) (by omega) true _ (fun W => ∃ L', DkAt W L' { (reqD d 0 true).1 with has := doQ d.has 0 d.qu (fun _ => true), qu := [] } ∧ Dv L w L' W) hops ?_ ?_).mono ?_
    · intro hr W hW hD
      have hsm := req_same d 0 true
      have hsame := hD.same w.heap.size hs1 fun e => by have := hown _ e; omega
      refine (syncfn_any hW w.heap.size (hsame.trans r0)).mono ?_
      rintro e W' ⟨rfl, L', hD', hV⟩
      rw [hsm.2.1, hsm.1] at hD'
      exact ⟨rfl, L', hD', ((Dv.ofEx k1).trans hD).trans hV⟩
    · rintro W ⟨L', hW, hV⟩
      have hW := hW.ops
      rw [hV.pp] at hW
      have hsm := (req_same d 0 true).2.2
      exact ⟨by rw [← hsm]; exact hW.1, hW.2⟩
    · rintro e w' (⟨hr, rfl, hW, hD⟩ | ⟨hr, rfl, W, ⟨L', hW, hD⟩, rfl⟩)
      · have hrd : syncD d = reqD d 0 true := by unfold syncD; rw [if_neg hr]
        rw [hrd]
        exact ⟨L, rfl, hW, (Dv.ofEx k1).trans hD⟩
      · have hrd : syncD d = (incD { (reqD d 0 true).1 with has := doQ d.has 0 d.qu (fun _ => true), qu := [] }, 0) := by unfold syncD; rw [if_pos hr]
        rw [hrd]
        obtain ⟨qv, hM⟩ := hW.out
        refine ⟨L', rfl, ⟨qv, ?_⟩, ?_⟩
        · have := hM.setOps (n := d.ops + 1) (by omega)
          rw [hD.pp] at this
          unfold incD
          simp only
          rw [(req_same d 0 true).2.2]
          exact this
        · have := hD.setP 5 (I ((d.ops : Int) + 1))
          rw [hD.pp] at this
          exact this
  have HQ2 : Hid (Calls Tryd.prog 60 #[PT L.p, I 0, .bool true, .func (.func 61) #[] #[PT w.heap.size]] (w.alloc (.cells #[PT L.p] 38)) (PostD w L (syncD d).1 (I (syncD d).2))) := Lib.hid (by rw [hw1]; exact HQ)
  clear hw1 r0 hown k1 h HQ hs1
  go_enter Tryd.func37, Tryd.ntmps37
  go_wp2_with (go_at_call 60; (with_reducible refine HQ2.out.mono ?_); rintro e w2 ⟨L', rfl, hW, hD⟩; replace hW := Lib.hid hW; replace hD := Lib.hid hD)
  go_ret
  exact ⟨L', rfl, hW.out, hD.out⟩
end Go.Proofs.YtabjamkkhlbajaaDoor

/- A crash: what is kept. -/
set_option linter.unusedSimpArgs false
set_option linter.unusedVariables false
set_option maxRecDepth 20000
namespace Go.Proofs.YtabjamkkhlbajaaDoor
open Go.RowKit
def KBo (b : Bool) : List Value := [.bool b]
theorem KBo_len (b : Bool) : (KBo b).length = 1 := rfl
theorem SlR.bool {w : World} {a : Option Addr} {l : List Bool} (h : SlR KBo 1 w a l) {k : Nat} (hk : k < l.length) : ∃ g off, a = some ⟨g, off, none⟩ ∧ g < w.heap.size ∧ w.cell? ⟨g, off + k, none⟩ = some (.bool (keptL l k)) := by
  obtain ⟨g, off, h1, h2, h3⟩ := h.pos (by omega)
  refine ⟨g, off, h1, h2, ?_⟩
  have := (cellsN_some.1 (h3 k _ (List.getElem?_eq_getElem hk))).2 0 (by omega)
  rw [Nat.mul_one, Nat.add_zero] at this
  rw [this]
  unfold keptL
  rw [List.getD_eq_getElem?_getD, List.getElem?_eq_getElem hk]; rfl
theorem kept_any {W : World} {kv : Value} {keep : List Bool} (hs : SlV1 KBo 1 W kv keep) (bk k : Nat) (hb : W.heap[bk]? = some (.cells #[kv] 43 (0, 0))) :
    Calls Tryd.prog 50 #[I k, PT bk] W (Post W (.bool (keptL keep k))) := by
  obtain ⟨a, c, rfl, h1, h2, h3, hr⟩ := hs.out
  have hbc := (block_cell (o := 0) (v := .slice a keep.length c) hb rfl).1
  have hbz := (Array.getElem?_eq_some_iff.1 hb).1
  unfold maxLen at h2
  clear hb hs
  by_cases hk : k < keep.length
  · obtain ⟨g, off, rfl, hg, hc⟩ := hr.bool hk
    have hk2 : (k : Int) < keep.length := by omega
    generalize keptL keep k = r at *
    clear hr h3
    go_enter Tryd.func50, Tryd.ntmps50
    go_wp2
    go_ret
    exact post_mk' rfl (by (try show Ex _ _); with_reducible repeat (first | exact ex_refl _ | assumption | refine ex_drewL ?_ | refine ex_appR ?_ _ | refine ex_wx ?_ _ | refine ex_drew ?_ | refine ex_alloc ?_ _))
  · have hk2 : ¬ (k : Int) < keep.length := by omega
    have hr0 : keptL keep k = false := by
      cases h : keptL keep k with
      | false => rfl
      | true =>
        exfalso; apply hk
        unfold keptL at h
        rcases Nat.lt_or_ge k keep.length with h9 | h9
        · exact h9
        · rw [List.getD_eq_getElem?_getD, List.getElem?_eq_none h9] at h; cases h
    rw [hr0]
    clear hr0 hr h3
    go_enter Tryd.func50, Tryd.ntmps50
    go_wp2
    go_ret
    exact post_mk' rfl (by (try show Ex _ _); with_reducible repeat (first | exact ex_refl _ | assumption | refine ex_drewL ?_ | refine ex_appR ?_ _ | refine ex_wx ?_ _ | refine ex_drew ?_ | refine ex_alloc ?_ _))
theorem lives_any {W : World} {kv : Value} {keep : List Bool} (hs : SlV1 KBo 1 W kv keep) (bk b5 b6 k u : Nat) (hb : W.heap[bk]? = some (.cells #[kv] 43 (0, 0)))
    (h5 : W.heap[b5]? = some (.cells #[.func (.func 50) #[] #[PT bk]] 90 (0, 0))) (h6 : W.heap[b6]? = some (.cells #[I u] 3 (0, 0))) :
    Calls Tryd.prog 53 #[I k, PT b6, PT b5] W (Post W (.bool (decide (k < u) || keptL keep k))) := by
  have HK := Lib.hid (fun W' (x : Ex W W') => kept_any (hs.ex x) bk k (ex_block x hb))
  have c5 := (block_cell (o := 0) (v := .func (.func 50) #[] #[PT bk]) h5 rfl).1
  have z5 := (Array.getElem?_eq_some_iff.1 h5).1
  have c6 := (block_cell (o := 0) (v := I u) h6 rfl).1
  have z6 := (Array.getElem?_eq_some_iff.1 h6).1
  clear hs hb h5 h6
  generalize keptL keep k = r at *
  by_cases hk : k < u
  · have hk2 : (k : Int) < u := by omega
    go_enter Tryd.func53, Tryd.ntmps53
    go_wp2
    go_ret
    exact post_mk' (by simp [hk]) (by (try show Ex _ _); with_reducible repeat (first | exact ex_refl _ | assumption | refine ex_drewL ?_ | refine ex_appR ?_ _ | refine ex_wx ?_ _ | refine ex_drew ?_ | refine ex_alloc ?_ _))
  · have hk2 : ¬ (k : Int) < u := by omega
    go_enter Tryd.func53, Tryd.ntmps53
    go_wp2_with (go_at_call 50; (with_reducible refine (HK.out _ (by (try show Ex _ _); with_reducible repeat (first | exact ex_refl _ | assumption | refine ex_drewL ?_ | refine ex_appR ?_ _ | refine ex_wx ?_ _ | refine ex_drew ?_ | refine ex_alloc ?_ _))).mono ?_); rintro e w2 ⟨rfl, X, rfl⟩)
    go_ret
    exact post_mk' (by simp [hk]) (by (try show Ex _ _); with_reducible repeat (first | exact ex_refl _ | assumption | refine ex_drewL ?_ | refine ex_appR ?_ _ | refine ex_wx ?_ _ | refine ex_drew ?_ | refine ex_alloc ?_ _))
end Go.Proofs.YtabjamkkhlbajaaDoor

/- Crash. -/
set_option linter.unusedSimpArgs false
set_option linter.unusedVariables false
set_option maxRecDepth 20000
namespace Go.Proofs.YtabjamkkhlbajaaDoor
open Go.RowKit
attribute [local go_sem] Oper.semAt_some
theorem under_none {keep : List Bool} {l : List Pt} (h : ∀ y ∈ uptoL (lastF l) l.length, keptL keep y.1 = false) : underK keep l.length = 0 := by
  have : topK keep l.length = none := (topK_none keep _).2 fun p hp => by
    have := h (lastF l (l.length - 1 - p)) (by
      unfold uptoL
      exact List.mem_map.2 ⟨l.length - 1 - p, List.mem_range.2 (by omega), rfl⟩)
    have e : (lastF l (l.length - 1 - p)).1 = p := by show l.length - 1 - (l.length - 1 - p) = p; omega
    rwa [e] at this
  unfold underK; rw [this]
theorem under_some {keep : List Bool} {l : List Pt} {j : Nat} (hj : j < l.length) (h : ∀ y ∈ uptoL (lastF l) j, keptL keep y.1 = false) (hk : keptL keep (lastF l j).1 = true) : underK keep l.length = (lastF l j).1 - 3 := by
  have : topK keep l.length = some (lastF l j).1 := (topK_spec keep _ _).2 ⟨by show l.length - 1 - j < _; omega, hk, fun p h1 h2 => by
    have h1 : l.length - 1 - j < p := h1
    have := h (lastF l (l.length - 1 - p)) (by
      unfold uptoL
      exact List.mem_map.2 ⟨l.length - 1 - p, List.mem_range.2 (by omega), rfl⟩)
    have e : (lastF l (l.length - 1 - p)).1 = p := by show l.length - 1 - (l.length - 1 - p) = p; omega
    rwa [e] at this⟩
  unfold underK; rw [this]
def capU (k : Nat) : Int := max (wrap64 (wrap64 ((k : Int) - 4) + 1)) 0
theorem capU_eq {k : Nat} (h : k ≤ 1000000) : capU k = ((k - 3 : Nat) : Int) := by unfold capU wrap64; omega
/-- A round has left. -/
structure IxC (b6 : Nat) (w3 : World) (keep : List Bool) (c : Code) (pre : List (Nat × Pt)) (W' : World) : Prop where
  fr : Frm (fun b => b = b6) w3 W'
  ce : c = .exit 0
  out : ∃ ini y, pre = ini ++ [y] ∧ (∀ z ∈ ini, keptL keep z.1 = false) ∧ keptL keep y.1 = true ∧ W'.heap[b6]? = some (.cells #[I (capU y.1)] 3 (0, 0))
theorem ixc_mk {b6 : Nat} {w3 W' : World} {keep : List Bool} {pre : List (Nat × Pt)} {y : Nat × Pt} (X : More) (v : Int) (hv : v = capU y.1) (hF : Frm (fun b => b = b6) w3 W') (hH : W'.heap[b6]? = some (.cells #[I 0] 3 (0, 0))) (hne : ∀ z ∈ pre, keptL keep z.1 = false) (hk : keptL keep y.1 = true) :
    IxC b6 w3 keep (.exit 0) (pre ++ [y]) (wx (W'.setCell ⟨b6, 0, none⟩ (I v)) X) := by
  subst hv
  exact ⟨(hF.set rfl 0 _).trans (Frm.ex ⟨X, rfl⟩), rfl, pre, y, rfl, hne, hk, ex_block ⟨X, rfl⟩ (setCell_block (I (capU y.1)) hH)⟩
set_option maxRecDepth 100000 in
set_option maxHeartbeats 2000000 in
theorem crash_any {w : World} {L : Loc} {d : Dk} (h : DkAt w L d) (kv : Value) (keep : List Bool) (hs : SlV1 KBo 1 w kv keep) (hko : ∀ g, kv.ownBlock = some g → ¬ L.own g ∧ g < w.heap.size) :
    Calls Tryd.prog 29 #[PT L.p, kv] w (PostD w L (crashD d keep) (I 0)) := by
  obtain ⟨qv, hM⟩ := h.out
  have hq1 := hM.ok.qn
  obtain ⟨Z, hZ⟩ : ∃ Z, Z = w.heap.size := ⟨_, rfl⟩
  have HZ := Lib.hid (fun b (hb : L.own b) => show b < Z by rw [hZ]; exact h.lt hb)
  have hk1 : kv.oneCell' = true := by obtain ⟨a, c, rfl, _⟩ := hs.out; rfl
  obtain ⟨bk, hbk⟩ : ∃ bk, bk = w.heap.size := ⟨_, rfl⟩
  obtain ⟨b5, hb5⟩ : ∃ b5, b5 = w.heap.size + 1 := ⟨_, rfl⟩
  obtain ⟨b6, hb6⟩ : ∃ b6, b6 = w.heap.size + 1 + 1 := ⟨_, rfl⟩
  obtain ⟨w2, hw2⟩ : ∃ w2, ((w.alloc (.cells #[kv] 43)).alloc (.cells #[.func (.func 50) #[] #[PT bk]] 90)).alloc (.cells #[I 0] 3) = w2 := ⟨_, rfl⟩
  have k2 : Ex w w2 := by rw [← hw2]; exact ex_alloc (ex_alloc (ex_alloc (ex_refl _) _) _) _
  have hs2 : w2.heap.size = w.heap.size + 3 := by rw [← hw2]; simp [go_sem]
  have r0 : w2.heap[bk]? = some (.cells #[kv] 43 (0, 0)) := by rw [← hw2, hbk]; exact ex_block (ex_alloc (ex_alloc (ex_refl _) _) _) (heap_alloc_new w _)
  have r1 : w2.heap[b5]? = some (.cells #[.func (.func 50) #[] #[PT bk]] 90 (0, 0)) := by
    rw [← hw2, hb5]
    have := ex_block (ex_alloc (ex_refl _) (.cells #[I 0] 3)) (heap_alloc_new (w.alloc (.cells #[kv] 43)) (.cells #[.func (.func 50) #[] #[PT bk]] 90))
    simpa only [World.size_alloc] using this
  have r2 : w2.heap[b6]? = some (.cells #[I 0] 3 (0, 0)) := by
    rw [← hw2, hb6]
    have := heap_alloc_new ((w.alloc (.cells #[kv] 43)).alloc (.cells #[.func (.func 50) #[] #[PT bk]] 90)) (.cells #[I 0] 3)
    simpa only [World.size_alloc] using this
  have HKo := Lib.hid (fun g hg => (hko g hg).1)
  have HKz : Hid (∀ g, kv.ownBlock = some g → g < Z) := Lib.hid (fun g hg => by rw [hZ]; exact (hko g hg).2)
  have Hw2 := Lib.hid hw2
  replace hZ := Lib.hid hZ
  have e0 : Hid (bk = Z ∧ b5 = Z + 1 ∧ b6 = Z + 2 ∧ w2.heap.size = Z + 3 ∧ w.heap.size = Z) := Lib.hid (by rw [hZ.out]; exact ⟨hbk, hb5, hb6, hs2, rfl⟩)
  have HM := Lib.hid hM
  have HS := Lib.hid hs
  have K2 := Lib.hid k2
  replace r0 := Lib.hid r0
  replace r1 := Lib.hid r1
  replace r2 := Lib.hid r2
  clear hw2 hs2 hko hM hs h k2
  refine calls_of_marks Tryd.func29 rfl ?_
  simp only [Tryd.ntmps29, List.size_toArray, List.length_cons, List.length_nil, Nat.reduceAdd, Nat.reduceSub, Array.replicate_succ, Array.replicate_zero, List.push_toArray, List.append_toArray, List.nil_append, List.cons_append]
  replace hbk := Lib.hid hbk
  replace hb5 := Lib.hid hb5
  replace hb6 := Lib.hid hb6
  go_wp2_with (go_at_call 51; (with_reducible refine (last_any _ _).mono ?_); rintro e w3 ⟨rfl, rfl⟩)
  obtain ⟨bx, hbx⟩ : ∃ bx, w.heap.size + 1 + 1 + 1 = bx := ⟨_, rfl⟩
  rw [hbx, ← hb6.out, ← hb5.out, ← hbk.out, Hw2.out]
  obtain ⟨E1, E2, E3, E4, E5⟩ := e0.out
  have hbx2 : bx = w2.heap.size := by omega
  replace hbx := Lib.hid hbx
  obtain ⟨w3, hw3⟩ : ∃ w3, w2.alloc (.cells #[PT L.p] 38) = w3 := ⟨_, rfl⟩
  have k23 : Ex w2 w3 := by rw [← hw3]; exact ex_alloc (ex_refl _) _
  have hs3 : w3.heap.size = w2.heap.size + 1 := by rw [← hw3]; simp [go_sem]
  have Hx3 : w3.heap[bx]? = some (.cells #[PT L.p] 38 (0, 0)) := by rw [← hw3, hbx2]; exact heap_alloc_new w2 _
  rw [hw3]
  clear hw3
  have HM2 := Lib.hid (HM.out.ex (ex_trans K2.out k23))
  have HS2 := Lib.hid (HS.out.ex (ex_trans K2.out k23))
  have Hk2 := Lib.hid (ex_block k23 r0.out)
  have H52 := Lib.hid (ex_block k23 r1.out)
  have H62 := ex_block k23 r2.out
  have F3 : Hid (Frm (fun b => Z ≤ b) w w3) := Lib.hid (Frm.ex (ex_trans K2.out k23))
  have y1 : bk < w3.heap.size := by omega
  have y2 : b5 < w3.heap.size := by omega
  have y3 : b6 < w3.heap.size := by omega
  have y4 : bx < w3.heap.size := by omega
  have y5 : Z ≤ w3.heap.size := by omega
  have y6 : Z ≤ b6 ∧ b6 ≠ bx ∧ Z ≤ bk ∧ Z ≤ b5 ∧ bk ≠ b6 ∧ b5 ≠ b6 := by omega
  have e3 : Hid (bk = Z ∧ b5 = Z + 1 ∧ b6 = Z + 2 ∧ w3.heap.size = Z + 4 ∧ w.heap.size = Z) := Lib.hid (by omega)
  clear E1 E2 E3 E4 E5 hbx2 hs3 e0 k23
  refine (wpIn_wide (n := 3)).1 ?_
  refine wpIn_rangeFunc_ownG rfl (by omega) (gf := 72) (lb := #[PT bx]) rfl trivial (enters_of Tryd.func72 (by kernel_rfl) rfl)
    (last_stops 2 (by omega) bx Z L d qv w3 HM2.out HZ.out Hx3) (fun h k => Frm.trans h k) (kpQ_b y5 y4) (Below.refl _ _) (fun _ => rfl)
    (fun pre W' => Frm (fun b => b = b6) w3 W' ∧ W'.heap[b6]? = some (.cells #[I 0] 3 (0, 0)) ∧ ∀ y ∈ pre, keptL keep y.1 = false)
    (fun c pre W' => IxC b6 w3 keep c pre W')
    (OwnFrom.and (ownFrom_frm (Nat.le_refl _)) (OwnFrom.and (ownFrom_heap _ y3) (ownFrom_pure' _ _)))
    (fun c s A B row hs hg hr => by obtain ⟨h1, h2, ini, y, h3, h4, h5, h6⟩ := hs; exact ⟨h1.grown hg (fun r e => (hr r e).1) (Nat.le_refl _), h2, ini, y, h3, h4, h5, (grown_heap hg (fun r e => (hr r e).1) y3 (Array.getElem?_eq_some_iff.1 h6).1).trans h6⟩)
    ⟨Frm.refl _ _, H62, fun _ h => by cases h⟩
    (fun y => { tmps := #[PT L.p, kv, undef, PT bk, I 0, PT b5, PT b6, I (y.1 : Nat), PT L.p, .bool false, .func (.func 50) #[] #[PT bk], PT L.p, .func (.func 72) #[] #[PT bx], I (y.1 : Nat), .agg (KQ y.2).toArray, undef, undef, undef, undef, undef, undef, undef, undef, undef, undef, undef, undef, undef, undef, undef, undef, undef, undef, undef], defers := [] })
    ?assign ?body ?done ?stop
  case assign =>
    intro l y W' K hK
    dsimp only [encQ]
    gi_wp2
    exact hK
  case body =>
    rintro l pre y W' ⟨hF, hH, hne⟩ hlt
    have hS := HS2.out.keep hF.size fun g hg => hF.same g (by have := HKz.out g hg; omega) (by have := HKz.out g hg; omega)
    have n3 := (hF.same bk y1 y6.2.2.2.2.1).trans Hk2.out
    have n5 := (hF.same b5 y2 y6.2.2.2.2.2).trans H52.out
    have HKe := Lib.hid (fun V (x : Ex W' V) => kept_any (hS.ex x) bk y.1 (ex_block x n3))
    have c5 := (block_cell (o := 0) (v := .func (.func 50) #[] #[PT bk]) n5 rfl).1
    have z5 := (Array.getElem?_eq_some_iff.1 n5).1
    obtain ⟨c6, f6⟩ := block_cell (o := 0) (v := I 0) hH rfl
    have z6 := (Array.getElem?_eq_some_iff.1 hH).1
    clear n3 n5 hS
    cases hke : keptL keep y.1 with
    | true =>
      rw [hke] at HKe
      gi_wp2_with (refine ⟨trivial, ?_⟩; gi_at_call 50; refine (CallsIn.inRound l (callsIn_wide.2 (HKe.out _ (ex_refl _)))).mono ?_; rintro e V ⟨rfl, X, rfl⟩)
      all_goals
        exact ⟨((KeepsOthers.setCell _ _ _).trans (keepsO_ex ⟨X, rfl⟩)).from _, ixc_mk X _ (by unfold capU; omega) hF hH hne hke⟩
    | false =>
      rw [hke] at HKe
      gi_wp2_with (refine ⟨trivial, ?_⟩; gi_at_call 50; refine (CallsIn.inRound l (callsIn_wide.2 (HKe.out _ (ex_refl _)))).mono ?_; rintro e V ⟨rfl, X, rfl⟩)
      exact ⟨(keepsO_ex ⟨X, rfl⟩).from _, Frm.ex ⟨X, rfl⟩, hF.trans (Frm.ex ⟨X, rfl⟩), ex_block ⟨X, rfl⟩ hH, fun z hz => (List.mem_append.1 hz).elim (hne z) (fun e => by simp at e; subst e; exact hke)⟩
  case done =>
    rintro D ys W' hD rfl ⟨hF, hH, hne⟩ hK
    have hH : W'.heap[b6]? = some (.cells #[I (underK keep d.qu.length : Nat)] 3 (0, 0)) := by rw [under_none hne]; exact hH
    obtain ⟨u, hu⟩ : ∃ u, underK keep d.qu.length = u := ⟨_, rfl⟩
    rw [hu] at hH
    have hW : DkAt W' L d := ⟨qv, HM2.out.keep fun b hb => hF.same b (HM2.out.lt hb) fun e => by have := HZ.out b hb; omega⟩
    have s3 : w3.heap.size ≤ W'.heap.size := hF.size
    have n3 : W'.heap[bk]? = some (.cells #[kv] 43 (0, 0)) := (hF.same bk (by omega) (by omega)).trans Hk2.out
    have n5 : W'.heap[b5]? = some (.cells #[.func (.func 50) #[] #[PT bk]] 90 (0, 0)) := (hF.same b5 (by omega) (by omega)).trans H52.out
    have nS : SlV1 KBo 1 W' kv keep := HS2.out.keep hF.size fun g hg => hF.same g (by have := HKz.out g hg; omega) (by have := HKz.out g hg; omega)
    have HD := Lib.hid (doesC_any hW b6 b5 (livesK keep d.qu.length) fun V hV k hk => by
      have sv : W'.heap.size ≤ V.heap.size := hV.size
      have hs : ∀ b, b < W'.heap.size → Z ≤ b → V.heap[b]? = W'.heap[b]? := fun b h1 h2 => hV.same b h1 fun e => by have := HZ.out b e; omega
      have := lives_any (nS.keep hV.size fun g hg => hV.same g (by have := HKz.out g hg; omega) (HKo.out g hg)) bk b5 b6 k u ((hs bk (by omega) (by omega)).trans n3) ((hs b5 (by omega) (by omega)).trans n5) ((hs b6 (by omega) (by omega)).trans hH)
      unfold livesK
      rw [hu]
      exact this)
    have hDz : w3.heap.size ≤ D := hD
    have f3 := F3.out.trans (Frm.mono (G := fun b => Z ≤ b) hF fun b hb => by omega)
    have HDv := Lib.hid (show Dv L w L W' from ⟨f3.os, f3.tape, f3.output, f3.size, fun b h1 _ => f3.same b h1 (by have := e3.out; omega), rfl, rfl, fun _ h => Or.inl h⟩)
    have hKc := Lib.hid hK
    clear n3 n5 nS hH hW f3 hK
    go_wp2_with (go_at_call 52; (with_reducible refine HD.out.mono ?_); rintro e w9 ⟨rfl, L', hW9, hV9⟩; obtain ⟨qv9, hM9⟩ := hW9.out; obtain ⟨⟨c0, c1, c2, c3, c4, c5⟩, hf9, hz9⟩ := hM9.cells; have g2 := hf9 2; have g3 := hf9 3; have g4 := hf9 4; have epp := hV9.pp; rw [epp] at c2 c3 c4 g2 g3 g4 hz9; clear hf9 c0 c1 c5 hW9; replace hM9 := Lib.hid hM9; replace hV9 := Lib.hid hV9; replace epp := Lib.hid epp)
    have hDW : D < W'.heap.size := (Array.getElem?_eq_some_iff.1 hKc.out).1
    have hDZ : Z ≤ D := by have := e3.out; omega
    have hDp : D ≠ L.p := by
      have := HZ.out L.p (Or.inl rfl)
      omega
    have hD9 : w9.heap[D]? = some (.deferred (some [])) := (hV9.out.same D hDW fun e => by have := HZ.out D e; omega).trans hKc.out
    obtain ⟨Wf, hWf⟩ : ∃ Wf, ((w9.setCell ⟨L.p, 4, none⟩ (.bool false)).setCell ⟨L.p, 2, none⟩ (I (-1))).setCell ⟨L.p, 3, none⟩ (I (-1)) = Wf := ⟨_, rfl⟩
    have hKf : Wf.heap[D]? = some (.deferred (some [])) := by
      rw [← hWf]
      exact (setCell_heap _ hDp).trans ((setCell_heap _ hDp).trans ((setCell_heap _ hDp).trans hD9))
    have hMf : DkM Wf L' (crashD d keep) qv9 := by
      have h3 := ((hM9.out.setDark false).setAr (x := -1) (by omega) (by omega)).setDm (x := -1) (by omega) (by omega)
      rw [epp.out, hWf] at h3
      exact h3
    have hVf : Dv L w L' Wf := by
      have h3 := (((HDv.out.trans hV9.out).setP 4 (.bool false)).setP 2 (I (-1))).setP 3 (I (-1))
      rw [epp.out, hWf] at h3
      exact h3
    rw [hWf]
    refine ⟨by simp, .inl ⟨_, _, rfl, run_takeDeferred hKf, ?_⟩⟩
    have hg := grownBy_putObj' Wf D (.deferred none)
    refine ⟨_, results_tmp rfl _ _ _, L', rfl, ⟨qv9, hMf.keep fun b hb => hg.block b (hMf.lt hb) fun e => ?_⟩, hVf.frm (F := fun b => b = D) ⟨hg.os, hg.tape, hg.output, hg.size, fun b h1 h2 => hg.block b h1 fun e => h2 (Option.some.inj e)⟩ fun b hb => by have := e3.out; omega⟩
    have hbD : b = D := Option.some.inj e
    rcases hV9.out.own hb with h9 | h9
    · have := HZ.out b h9; omega
    · omega
  case stop =>
    rintro D c pre W' hD ⟨k, hk, rfl⟩ ⟨hF, rfl, ini, y, e1, e2, e4, e5⟩ hK
    refine wpIn_wide.2 ?_
    obtain ⟨j, rfl, rfl, rfl⟩ := uptoL_split e1
    have hH : W'.heap[b6]? = some (.cells #[I (underK keep d.qu.length : Nat)] 3 (0, 0)) := by rw [under_some (by omega) e2 e4, ← capU_eq (by show d.qu.length - 1 - j ≤ _; omega)]; exact e5
    clear e5
    obtain ⟨u, hu⟩ : ∃ u, underK keep d.qu.length = u := ⟨_, rfl⟩
    rw [hu] at hH
    have hW : DkAt W' L d := ⟨qv, HM2.out.keep fun b hb => hF.same b (HM2.out.lt hb) fun e => by have := HZ.out b hb; omega⟩
    have s3 : w3.heap.size ≤ W'.heap.size := hF.size
    have n3 : W'.heap[bk]? = some (.cells #[kv] 43 (0, 0)) := (hF.same bk (by omega) (by omega)).trans Hk2.out
    have n5 : W'.heap[b5]? = some (.cells #[.func (.func 50) #[] #[PT bk]] 90 (0, 0)) := (hF.same b5 (by omega) (by omega)).trans H52.out
    have nS : SlV1 KBo 1 W' kv keep := HS2.out.keep hF.size fun g hg => hF.same g (by have := HKz.out g hg; omega) (by have := HKz.out g hg; omega)
    have HD := Lib.hid (doesC_any hW b6 b5 (livesK keep d.qu.length) fun V hV k hk => by
      have sv : W'.heap.size ≤ V.heap.size := hV.size
      have hs : ∀ b, b < W'.heap.size → Z ≤ b → V.heap[b]? = W'.heap[b]? := fun b h1 h2 => hV.same b h1 fun e => by have := HZ.out b e; omega
      have := lives_any (nS.keep hV.size fun g hg => hV.same g (by have := HKz.out g hg; omega) (HKo.out g hg)) bk b5 b6 k u ((hs bk (by omega) (by omega)).trans n3) ((hs b5 (by omega) (by omega)).trans n5) ((hs b6 (by omega) (by omega)).trans hH)
      unfold livesK
      rw [hu]
      exact this)
    have hDz : w3.heap.size ≤ D := hD
    have f3 := F3.out.trans (Frm.mono (G := fun b => Z ≤ b) hF fun b hb => by omega)
    have HDv := Lib.hid (show Dv L w L W' from ⟨f3.os, f3.tape, f3.output, f3.size, fun b h1 _ => f3.same b h1 (by have := e3.out; omega), rfl, rfl, fun _ h => Or.inl h⟩)
    have hKc := Lib.hid hK
    clear n3 n5 nS hH hW f3 hK
    go_wp2_with (go_at_call 52; (with_reducible refine HD.out.mono ?_); rintro e w9 ⟨rfl, L', hW9, hV9⟩; obtain ⟨qv9, hM9⟩ := hW9.out; obtain ⟨⟨c0, c1, c2, c3, c4, c5⟩, hf9, hz9⟩ := hM9.cells; have g2 := hf9 2; have g3 := hf9 3; have g4 := hf9 4; have epp := hV9.pp; rw [epp] at c2 c3 c4 g2 g3 g4 hz9; clear hf9 c0 c1 c5 hW9; replace hM9 := Lib.hid hM9; replace hV9 := Lib.hid hV9; replace epp := Lib.hid epp)
    have hDW : D < W'.heap.size := (Array.getElem?_eq_some_iff.1 hKc.out).1
    have hDZ : Z ≤ D := by have := e3.out; omega
    have hDp : D ≠ L.p := by
      have := HZ.out L.p (Or.inl rfl)
      omega
    have hD9 : w9.heap[D]? = some (.deferred (some [])) := (hV9.out.same D hDW fun e => by have := HZ.out D e; omega).trans hKc.out
    obtain ⟨Wf, hWf⟩ : ∃ Wf, ((w9.setCell ⟨L.p, 4, none⟩ (.bool false)).setCell ⟨L.p, 2, none⟩ (I (-1))).setCell ⟨L.p, 3, none⟩ (I (-1)) = Wf := ⟨_, rfl⟩
    have hKf : Wf.heap[D]? = some (.deferred (some [])) := by
      rw [← hWf]
      exact (setCell_heap _ hDp).trans ((setCell_heap _ hDp).trans ((setCell_heap _ hDp).trans hD9))
    have hMf : DkM Wf L' (crashD d keep) qv9 := by
      have h3 := ((hM9.out.setDark false).setAr (x := -1) (by omega) (by omega)).setDm (x := -1) (by omega) (by omega)
      rw [epp.out, hWf] at h3
      exact h3
    have hVf : Dv L w L' Wf := by
      have h3 := (((HDv.out.trans hV9.out).setP 4 (.bool false)).setP 2 (I (-1))).setP 3 (I (-1))
      rw [epp.out, hWf] at h3
      exact h3
    rw [hWf]
    refine ⟨by simp, .inl ⟨_, _, rfl, run_takeDeferred hKf, ?_⟩⟩
    have hg := grownBy_putObj' Wf D (.deferred none)
    refine ⟨_, results_tmp rfl _ _ _, L', rfl, ⟨qv9, hMf.keep fun b hb => hg.block b (hMf.lt hb) fun e => ?_⟩, hVf.frm (F := fun b => b = D) ⟨hg.os, hg.tape, hg.output, hg.size, fun b h1 h2 => hg.block b h1 fun e => h2 (Option.some.inj e)⟩ fun b hb => by have := e3.out; omega⟩
    have hbD : b = D := Option.some.inj e
    rcases hV9.out.own hb with h9 | h9
    · have := HZ.out b h9; omega
    · omega
end Go.Proofs.YtabjamkkhlbajaaDoor
