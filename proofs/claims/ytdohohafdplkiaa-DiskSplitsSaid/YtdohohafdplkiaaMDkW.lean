import Derived.Test.YtdohohafdplkiaaMBuildK
import Derived.Test.YtdohohafdplkiaaMDkV

/- Write. -/
set_option linter.unusedSimpArgs false
set_option linter.unusedVariables false
set_option maxRecDepth 20000
namespace Go.Proofs.Ytdohohafdplkiaa
open Go.RowKit
/-- X where it holds what A holds, but for the blocks of a set; else A. -/
noncomputable def kp (A : World) (P : Nat → Prop) (X : World) : World := open Classical in if ∀ k, k < A.heap.size → ¬ P k → X.heap[k]? = A.heap[k]? then X else A
theorem kp_heap (A : World) (P : Nat → Prop) (X : World) {k : Nat} (h : k < A.heap.size) (h2 : ¬ P k) : (kp A P X).heap[k]? = A.heap[k]? := by
  unfold kp; split
  · rename_i h3; exact h3 k h h2
  · rfl
theorem kp_of {A X : World} {P : Nat → Prop} (h : ∀ k, k < A.heap.size → ¬ P k → X.heap[k]? = A.heap[k]?) : X = kp A P X := by
  unfold kp; rw [if_pos h]
noncomputable def kpFar (A : World) (P : Nat → Prop) (X : World) (a : Addr) : Option Value := (kp A P X).cell? a
noncomputable def kpFarN (A : World) (P : Nat → Prop) (X : World) (b i n : Nat) : Option (Array Value) := cellsN (kp A P X) b i n
open Classical in
@[go_sem high] theorem kp_cell (A : World) (P : Nat → Prop) (X : World) (b i : Nat) : (kp A P X).cell? ⟨b, i, none⟩ = if b < A.heap.size ∧ ¬ P b then A.cell? ⟨b, i, none⟩ else kpFar A P X ⟨b, i, none⟩ := by
  split
  · rename_i h; simp only [World.cell?, kp_heap A P X h.1 h.2]
  · rfl
open Classical in
@[go_sem high] theorem kp_cellsN (A : World) (P : Nat → Prop) (X : World) (b i n : Nat) : cellsN (kp A P X) b i n = if b < A.heap.size ∧ ¬ P b then cellsN A b i n else kpFarN A P X b i n := by
  split
  · rename_i h; exact cellsN_congr fun j _ => by simp only [World.cell?, kp_heap A P X h.1 h.2]
  · rfl
theorem Frm.apd {F : Nat → Prop} {w w' w'' : World} {v v' : Value} (h : Frm F w w') (k : Apd w' w'' v v') (hv : ∀ g, v.ownBlock = some g → F g) : Frm F w w'' :=
  h.trans ⟨k.os, k.tape, k.output, k.size, fun b hb hn => k.block b hb fun e => hn (hv b e)⟩
set_option maxHeartbeats 1000000 in
theorem writefn_any {W : World} {L : Loc} {d : Dk} (h : DkAt W L d) (i : Int) (b : Bk) (bd bi bb Z : Nat) (hi : 0 ≤ i ∧ i < d.has.length) (hq : d.qu.length < 1000000) (hZ : ∀ b, L.own b → b < Z) (z1 : Z ≤ bd) (z2 : Z ≤ bi) (z3 : Z ≤ bb)
    (hd : W.heap[bd]? = some (.cells #[PT L.p] 24 (0, 0))) (hb : W.heap[bi]? = some (.cells #[I i] 3 (0, 0))) (hr : W.heap[bb]? = some (.cells (rowB 64 (bkF b)) 39 (0, 0))) :
    Calls Try.prog 48 #[PT bd, PT bi, PT bb] W fun e W' => e = .returned (.tuple #[]) ∧ ∃ L', DkAt W' L' { d with qu := d.qu ++ [(i, b)] } ∧ Dv L W L' W' := by
  obtain ⟨qv, hM⟩ := h.out
  obtain ⟨P, hP⟩ : ∃ P : Nat → Prop, P = fun k => k = L.p ∨ L.q = some k := ⟨_, rfl⟩
  obtain ⟨⟨c0, c1, c2, c3, c4, c5⟩, hf, hz⟩ := hM.cells
  have f1 := hf 1
  have hdc := (block_cell (o := 0) (v := PT L.p) hd rfl).1
  have hbc := (block_cell (o := 0) (v := I i) hb rfl).1
  have hrc := (block_cells (n := 64) hr (by simp)).1
  have hbz := (Array.getElem?_eq_some_iff.1 hr).1
  have hdz := (Array.getElem?_eq_some_iff.1 hd).1
  have hiz := (Array.getElem?_eq_some_iff.1 hb).1
  have hnP : ∀ k, Z ≤ k → ¬ P k := fun k hk hp => by
    rw [hP] at hp
    rcases hp with rfl | hp
    · have := hZ L.p (Or.inl rfl); omega
    · have := hZ k (Or.inr (Or.inr hp)); omega
  have p1 := hnP bd z1
  have p2 := hnP bi z2
  have p3 := hnP bb z3
  have pp : P L.p := by rw [hP]; exact Or.inl rfl
  have pq : Hid (∀ g, qv.ownBlock = some g → P g) := Lib.hid fun g hg => by rw [hP]; exact Or.inr (hM.qb.symm.trans hg)
  have hpz := hZ L.p (Or.inl rfl)
  obtain ⟨qa, qc, hqv, _, _, _⟩ : ∃ a c, qv = .slice a d.qu.length c ∧ d.qu.length ≤ c ∧ c ≤ maxLen ∧ (a = none → c = 0) := by
    rcases hM.bq.2 with ⟨rfl, h0⟩ | ⟨g, cap, cur, rfl, h1, h2, h3, h4, h5, h6⟩
    · exact ⟨none, 0, by rw [h0], by omega, by decide, fun _ => rfl⟩
    · exact ⟨_, cap, rfl, h3, h4, fun h => by cases h⟩
  have HM := Lib.hid hM
  have HO := Lib.hid hM.bq
  have HP := Lib.hid hP
  have HI := Lib.hid hi
  have hWp : L.p < W.heap.size := hz
  have hne : (Value.slice qa d.qu.length qc).ownBlock ≠ some L.p := fun e => hM.pq (hM.qb.symm.trans (by rw [hqv]; exact e))
  have hne2 : (Value.slice qa d.qu.length qc).ownBlock ≠ some L.h := fun e => hM.hq (hM.qb.symm.trans (by rw [hqv]; exact e))
  have hWh := hM.lt (b := L.h) (Or.inr (Or.inl rfl))
  have HKl : (KQ (i, b)).length = 1 * 65 := by rw [KQ_len]
  have HK1 : ∀ u ∈ KQ (i, b), u.oneCell' = true := fun u hu => KQ_one [(i, b)] u (by simpa using hu)
  have hl1 : d.qu.length + 1 ≤ maxLen := by unfold maxLen; omega
  have hl2 : (d.qu.length + 1) * 72 ≤ 140737488355328 := by omega
  subst hqv
  clear h hM hd hb hr hf hP hnP c0 c2 c3 c4 c5 hi hZ
  go_enter Try.func48, Try.ntmps48
  go_wp2
  refine wp_region_forkH (fun w' => ∃ X, w' = kp W P X) (.look 0 (.look 1 (.look 2 (.look 3 (.look 5 (.look 6 (.look 7 (.fork 4 (.eff 8 (.eff 9 (.look 10 (.look 11 (.eff 12 .done))))) 8 (.eff 4 (.eff 9 (.look 10 (.look 11 (.eff 12 .done))))))))))))) (⟨_, kp_of (fun _ _ _ => rfl)⟩) (by kernel_rfl) (by kernel_rfl) (fun _ _ d _ _ h => by cases d <;> exact h) ?_
  simp only [Fk.ops, nth]
  repeat (first | ((with_reducible refine wpForkH_look ?_); go_big_quiet_step (fail); (try (with_reducible refine wpQuiet_nil ?_))) | (with_reducible refine wpForkH_eff ?_) | ((with_reducible refine effH_F ?_ ?_); (focus rfl); go_simp) | ((with_reducible refine effH_T ?_ ?_); (focus rfl); (try dsimp only); go_wp2_with ((at_builtin; refine wpApd (v := .slice qa d.qu.length qc) (n := d.qu.length) (xs := d.qu.flatMap KQ) (B := 0) appPut _ _ rfl rfl (owns_ex HO.out (by (try show Ex _ _); repeat (first | (with_reducible exact ex_refl _) | (with_reducible assumption) | (with_reducible refine ex_drewL ?_) | (with_reducible refine ex_appR ?_ _) | (with_reducible refine ex_wx ?_ _) | (with_reducible refine ex_drew ?_) | (with_reducible refine ex_alloc ?_ _)))) rfl ⟨W.heap.size, 0, none⟩ 1 1 (KQ (i, b)) rfl HKl (news_alloc (w := W) (cs := (KQ (i, b)).toArray) (e := 87) rfl (by (try show Ex _ _); repeat (first | (with_reducible exact ex_refl _) | (with_reducible assumption) | (with_reducible refine ex_drewL ?_) | (with_reducible refine ex_appR ?_ _) | (with_reducible refine ex_wx ?_ _) | (with_reducible refine ex_drew ?_) | (with_reducible refine ex_alloc ?_ _)))) HK1 hl1 hl2 (Nat.zero_le _) (fun v9 w9 hO9 hA9 => ?_); have F9 : Hid (Frm P W w9) := Lib.hid ((Frm.ex (F := P) (by (try show Ex _ _); repeat (first | (with_reducible exact ex_refl _) | (with_reducible assumption) | (with_reducible refine ex_drewL ?_) | (with_reducible refine ex_appR ?_ _) | (with_reducible refine ex_wx ?_ _) | (with_reducible refine ex_drew ?_) | (with_reducible refine ex_alloc ?_ _)))).apd hA9 pq.out); have e9 : W.heap.size + 1 ≤ w9.heap.size := (by have := hA9.size; simp [go_sem] at this; omega); obtain ⟨g9, n9, rfl⟩ := ownsRow_succ hO9; have hp9 := (hA9.block L.p (Nat.lt_of_lt_of_le hWp (ex_size (by (try show Ex _ _); repeat (first | (with_reducible exact ex_refl _) | (with_reducible assumption) | (with_reducible refine ex_drewL ?_) | (with_reducible refine ex_appR ?_ _) | (with_reducible refine ex_wx ?_ _) | (with_reducible refine ex_drew ?_) | (with_reducible refine ex_alloc ?_ _))))) hne).trans (ex_block (by (try show Ex _ _); repeat (first | (with_reducible exact ex_refl _) | (with_reducible assumption) | (with_reducible refine ex_drewL ?_) | (with_reducible refine ex_appR ?_ _) | (with_reducible refine ex_wx ?_ _) | (with_reducible refine ex_drew ?_) | (with_reducible refine ex_alloc ?_ _))) HM.out.bp); obtain ⟨c9, f9⟩ := block_cell (o := 1) (v := .slice qa d.qu.length qc) hp9 rfl; have z9 := (Array.getElem?_eq_some_iff.1 hp9).1; have hh9 : Hid (w9.heap[L.h]? = W.heap[L.h]?) := Lib.hid ((hA9.block L.h (Nat.lt_of_lt_of_le hWh (ex_size (by (try show Ex _ _); repeat (first | (with_reducible exact ex_refl _) | (with_reducible assumption) | (with_reducible refine ex_drewL ?_) | (with_reducible refine ex_appR ?_ _) | (with_reducible refine ex_wx ?_ _) | (with_reducible refine ex_drew ?_) | (with_reducible refine ex_alloc ?_ _))))) hne2).trans ((ex_below (w := W) (by (try show Ex _ _); repeat (first | (with_reducible exact ex_refl _) | (with_reducible assumption) | (with_reducible refine ex_drewL ?_) | (with_reducible refine ex_appR ?_ _) | (with_reducible refine ex_wx ?_ _) | (with_reducible refine ex_drew ?_) | (with_reducible refine ex_alloc ?_ _)))).block L.h hWh)); have ho9 : Hid (g9 ∈ L.q ∨ W.heap.size ≤ g9) := Lib.hid (by rcases hA9.own with e | ⟨g, e1, e2⟩; exact Or.inl (HM.out.qb.symm.trans e.symm); right; obtain rfl := Option.some.inj e1; exact Nat.le_trans (ex_size (by (try show Ex _ _); repeat (first | (with_reducible exact ex_refl _) | (with_reducible assumption) | (with_reducible refine ex_drewL ?_) | (with_reducible refine ex_appR ?_ _) | (with_reducible refine ex_wx ?_ _) | (with_reducible refine ex_drew ?_) | (with_reducible refine ex_alloc ?_ _)))) e2); replace hp9 := Lib.hid hp9; replace hO9 := Lib.hid hO9; clear hA9)); refine mixQH_mk (⟨_, kp_of (by first | exact (F9.out.set pp 1 _).same | exact F9.out.same | exact (Frm.ex (by (try show Ex _ _); repeat (first | (with_reducible exact ex_refl _) | (with_reducible assumption) | (with_reducible refine ex_drewL ?_) | (with_reducible refine ex_appR ?_ _) | (with_reducible refine ex_wx ?_ _) | (with_reducible refine ex_drew ?_) | (with_reducible refine ex_alloc ?_ _)))).same)⟩) ?_))
  all_goals (try (with_reducible refine wpForkH_fork ?_ ?_))
  all_goals repeat (first | ((with_reducible refine wpForkH_look ?_); go_big_quiet_step (fail); (try (with_reducible refine wpQuiet_nil ?_))) | (with_reducible refine wpForkH_eff ?_) | ((with_reducible refine effH_F ?_ ?_); (focus rfl); go_simp) | ((with_reducible refine effH_T ?_ ?_); (focus rfl); (try dsimp only); go_wp2_with ((at_builtin; refine wpApd (v := .slice qa d.qu.length qc) (n := d.qu.length) (xs := d.qu.flatMap KQ) (B := 0) appPut _ _ rfl rfl (owns_ex HO.out (by (try show Ex _ _); repeat (first | (with_reducible exact ex_refl _) | (with_reducible assumption) | (with_reducible refine ex_drewL ?_) | (with_reducible refine ex_appR ?_ _) | (with_reducible refine ex_wx ?_ _) | (with_reducible refine ex_drew ?_) | (with_reducible refine ex_alloc ?_ _)))) rfl ⟨W.heap.size, 0, none⟩ 1 1 (KQ (i, b)) rfl HKl (news_alloc (w := W) (cs := (KQ (i, b)).toArray) (e := 87) rfl (by (try show Ex _ _); repeat (first | (with_reducible exact ex_refl _) | (with_reducible assumption) | (with_reducible refine ex_drewL ?_) | (with_reducible refine ex_appR ?_ _) | (with_reducible refine ex_wx ?_ _) | (with_reducible refine ex_drew ?_) | (with_reducible refine ex_alloc ?_ _)))) HK1 hl1 hl2 (Nat.zero_le _) (fun v9 w9 hO9 hA9 => ?_); have F9 : Hid (Frm P W w9) := Lib.hid ((Frm.ex (F := P) (by (try show Ex _ _); repeat (first | (with_reducible exact ex_refl _) | (with_reducible assumption) | (with_reducible refine ex_drewL ?_) | (with_reducible refine ex_appR ?_ _) | (with_reducible refine ex_wx ?_ _) | (with_reducible refine ex_drew ?_) | (with_reducible refine ex_alloc ?_ _)))).apd hA9 pq.out); have e9 : W.heap.size + 1 ≤ w9.heap.size := (by have := hA9.size; simp [go_sem] at this; omega); obtain ⟨g9, n9, rfl⟩ := ownsRow_succ hO9; have hp9 := (hA9.block L.p (Nat.lt_of_lt_of_le hWp (ex_size (by (try show Ex _ _); repeat (first | (with_reducible exact ex_refl _) | (with_reducible assumption) | (with_reducible refine ex_drewL ?_) | (with_reducible refine ex_appR ?_ _) | (with_reducible refine ex_wx ?_ _) | (with_reducible refine ex_drew ?_) | (with_reducible refine ex_alloc ?_ _))))) hne).trans (ex_block (by (try show Ex _ _); repeat (first | (with_reducible exact ex_refl _) | (with_reducible assumption) | (with_reducible refine ex_drewL ?_) | (with_reducible refine ex_appR ?_ _) | (with_reducible refine ex_wx ?_ _) | (with_reducible refine ex_drew ?_) | (with_reducible refine ex_alloc ?_ _))) HM.out.bp); obtain ⟨c9, f9⟩ := block_cell (o := 1) (v := .slice qa d.qu.length qc) hp9 rfl; have z9 := (Array.getElem?_eq_some_iff.1 hp9).1; have hh9 : Hid (w9.heap[L.h]? = W.heap[L.h]?) := Lib.hid ((hA9.block L.h (Nat.lt_of_lt_of_le hWh (ex_size (by (try show Ex _ _); repeat (first | (with_reducible exact ex_refl _) | (with_reducible assumption) | (with_reducible refine ex_drewL ?_) | (with_reducible refine ex_appR ?_ _) | (with_reducible refine ex_wx ?_ _) | (with_reducible refine ex_drew ?_) | (with_reducible refine ex_alloc ?_ _))))) hne2).trans ((ex_below (w := W) (by (try show Ex _ _); repeat (first | (with_reducible exact ex_refl _) | (with_reducible assumption) | (with_reducible refine ex_drewL ?_) | (with_reducible refine ex_appR ?_ _) | (with_reducible refine ex_wx ?_ _) | (with_reducible refine ex_drew ?_) | (with_reducible refine ex_alloc ?_ _)))).block L.h hWh)); have ho9 : Hid (g9 ∈ L.q ∨ W.heap.size ≤ g9) := Lib.hid (by rcases hA9.own with e | ⟨g, e1, e2⟩; exact Or.inl (HM.out.qb.symm.trans e.symm); right; obtain rfl := Option.some.inj e1; exact Nat.le_trans (ex_size (by (try show Ex _ _); repeat (first | (with_reducible exact ex_refl _) | (with_reducible assumption) | (with_reducible refine ex_drewL ?_) | (with_reducible refine ex_appR ?_ _) | (with_reducible refine ex_wx ?_ _) | (with_reducible refine ex_drew ?_) | (with_reducible refine ex_alloc ?_ _)))) e2); replace hp9 := Lib.hid hp9; replace hO9 := Lib.hid hO9; clear hA9)); refine mixQH_mk (⟨_, kp_of (by first | exact (F9.out.set pp 1 _).same | exact F9.out.same | exact (Frm.ex (by (try show Ex _ _); repeat (first | (with_reducible exact ex_refl _) | (with_reducible assumption) | (with_reducible refine ex_drewL ?_) | (with_reducible refine ex_appR ?_ _) | (with_reducible refine ex_wx ?_ _) | (with_reducible refine ex_drew ?_) | (with_reducible refine ex_alloc ?_ _)))).same)⟩) ?_))
  all_goals (with_reducible refine wpForkH_nil ?_)
  all_goals
    go_wp2
    go_end0
    have hgp : g9 ≠ L.p := by
      rintro rfl
      rcases ho9.out with e | e
      · exact HM.out.pq e
      · omega
    have hgh : g9 ≠ L.h := by
      rintro rfl
      rcases ho9.out with e | e
      · exact HM.out.hq e
      · omega
    refine ⟨rfl, ⟨L.p, L.h, some g9⟩, ⟨.slice (some ⟨g9, 0, none⟩) (d.qu.length + 1) n9, ?_⟩, ?_⟩
    · have hM := HM.out
      refine ⟨?_, ?_, ?_, rfl, hM.ph, fun e => hgp (Option.some.inj e), fun e => hgh (Option.some.inj e), ?_⟩
      · rw [setCell_block _ hp9.out]
        rfl
      · exact owns_same hM.bh fun k hk => by
          obtain rfl : L.h = k := Option.some.inj hk
          exact (setCell_heap _ (Ne.symm hM.ph)).trans hh9.out
      · have hO := hO9.out
        have e1 : (d.qu ++ [(i, b)]).length = d.qu.length + 1 := by rw [List.length_append, List.length_singleton]
        have e2 : (d.qu ++ [(i, b)]).flatMap KQ = d.qu.flatMap KQ ++ KQ (i, b) := by rw [List.flatMap_append]; simp
        rw [← e2, ← e1] at hO
        rw [← e1]
        exact owns_same hO fun k hk => by
          obtain rfl : g9 = k := Option.some.inj hk
          exact setCell_heap _ hgp
      · obtain ⟨o1, o2, o3, o4, o5, o6, o7, o8, o9⟩ := hM.ok
        refine ⟨o1, o2, ?_, ?_, o5, o6, o7, o8, o9⟩
        · show (d.qu ++ [(i, b)]).length ≤ _
          rw [List.length_append, List.length_singleton]; omega
        · intro q hq2
          rcases List.mem_append.1 hq2 with hq2 | hq2
          · exact o4 q hq2
          · obtain rfl : q = (i, b) := by simpa using hq2
            exact HI.out
    · have hF := F9.out.set pp 1 (.slice (some ⟨g9, 0, none⟩) (d.qu.length + 1) n9)
      refine ⟨hF.os, hF.tape, hF.output, hF.size, fun k hk hn => hF.same k hk fun e => hn ?_, rfl, rfl, fun g hg => ?_⟩
      · rw [HP.out] at e
        rcases e with rfl | e
        · exact Or.inl rfl
        · exact Or.inr (Or.inr e)
      · obtain rfl : g9 = g := Option.some.inj hg
        exact ho9.out
theorem DkAt.ops {W : World} {L : Loc} {d : Dk} (h : DkAt W L d) : W.cell? ⟨L.p, 5, none⟩ = some (I (d.ops : Nat)) ∧ W.frozen? ⟨L.p, 5, none⟩ = false ∧ L.p < W.heap.size := by
  obtain ⟨qv, hM⟩ := h.out
  obtain ⟨⟨c0, c1, c2, c3, c4, c5⟩, hf, hz⟩ := hM.cells
  exact ⟨c5, hf 5, hz⟩
set_option maxHeartbeats 1000000 in
theorem write_any {w : World} {L : Loc} {d : Dk} (h : DkAt w L d) (i : Int) (b : Bk) (h1 : -9223372036854775808 ≤ i) (h2 : i < 9223372036854775808) (hops : d.ops < 1000000000) (hq : d.qu.length < 1000000) :
    Calls Try.prog 25 #[PT L.p, I i, .agg (rowB 64 (bkF b))] w (PostD w L (writeD d i b).1 (I (writeD d i b).2)) := by
  obtain ⟨w1, hw1⟩ : ∃ w1, ((w.alloc (.cells #[PT L.p] 24)).alloc (.cells #[I i] 3)).alloc (.cells (rowB 64 (bkF b)) 39) = w1 := ⟨_, rfl⟩
  have k1 : Ex w w1 := by rw [← hw1]; exact ex_alloc (ex_alloc (ex_alloc (ex_refl _) _) _) _
  obtain ⟨Z, hZ⟩ : ∃ Z, Z = w.heap.size := ⟨_, rfl⟩
  have hs1 : w1.heap.size = Z + 3 := by rw [← hw1, hZ]; simp [go_sem]
  have r0 : w1.heap[Z]? = some (.cells #[PT L.p] 24 (0, 0)) := by rw [← hw1, hZ]; exact ex_block (ex_alloc (ex_alloc (ex_refl _) _) _) (heap_alloc_new w _)
  have r1 : w1.heap[Z + 1]? = some (.cells #[I i] 3 (0, 0)) := by
    rw [← hw1, hZ]
    have := ex_block (ex_alloc (ex_refl _) (.cells (rowB 64 (bkF b)) 39)) (heap_alloc_new (w.alloc (.cells #[PT L.p] 24)) (.cells #[I i] 3))
    simpa only [World.size_alloc] using this
  have r2 : w1.heap[Z + 2]? = some (.cells (rowB 64 (bkF b)) 39 (0, 0)) := by
    rw [← hw1, hZ]
    have := heap_alloc_new ((w.alloc (.cells #[PT L.p] 24)).alloc (.cells #[I i] 3)) (.cells (rowB 64 (bkF b)) 39)
    simpa only [World.size_alloc] using this
  have hown : ∀ b, L.own b → b < Z := fun b hb => by rw [hZ]; exact h.lt hb
  have HQ : Calls Try.prog 45 #[PT L.p, I i, .bool true, .func (.func 48) #[] #[PT Z, PT (Z + 1), PT (Z + 2)]] w1 (PostD w L (writeD d i b).1 (I (writeD d i b).2)) := by
    refine (requestW_any (h.ex k1) i h1 h2 true _ (fun W => ∃ L', DkAt W L' { (reqD d i true).1 with qu := d.qu ++ [(i, b)] } ∧ Dv L w L' W) hops ?_ ?_).mono ?_
    · intro hr W hW hD
      have hin := req_in hr
      have hsm := req_same d i true
      have hsame : ∀ b, b < Z + 3 → Z ≤ b → W.heap[b]? = w1.heap[b]? := fun b hb hz => hD.same b (by omega) fun e => by have := hown b e; omega
      have hin2 : 0 ≤ i ∧ i < (reqD d i true).1.has.length := by rw [hsm.1]; exact hin
      refine (writefn_any hW i b Z (Z + 1) (Z + 2) Z hin2 (by rw [hsm.2.1]; exact hq) hown (Nat.le_refl _) (by omega) (by omega) ((hsame Z (by omega) (by omega)).trans r0) ((hsame (Z + 1) (by omega) (by omega)).trans r1) ((hsame (Z + 2) (by omega) (by omega)).trans r2)).mono ?_
      rintro e W' ⟨rfl, L', hD', hV⟩
      rw [hsm.2.1] at hD'
      exact ⟨rfl, L', hD', ((Dv.ofEx k1).trans hD).trans hV⟩
    · rintro W ⟨L', hW, hV⟩
      have hW := hW.ops
      rw [hV.pp] at hW
      have hsm := (req_same d i true).2.2
      exact ⟨by rw [← hsm]; exact hW.1, hW.2⟩
    · rintro e w' (⟨hr, rfl, hW, hD⟩ | ⟨hr, rfl, W, ⟨L', hW, hD⟩, rfl⟩)
      · have hrd : writeD d i b = reqD d i true := by unfold writeD; rw [if_neg hr]
        rw [hrd]
        exact ⟨L, rfl, hW, (Dv.ofEx k1).trans hD⟩
      · have hrd : writeD d i b = (incD { (reqD d i true).1 with qu := d.qu ++ [(i, b)] }, 0) := by unfold writeD; rw [if_pos hr]
        rw [hrd]
        obtain ⟨qv, hM⟩ := hW.out
        refine ⟨L', rfl, ⟨qv, ?_⟩, ?_⟩
        · have := hM.setOps (n := d.ops + 1) (by omega)
          rw [hD.pp] at this
          unfold incD
          simp only
          rw [(req_same d i true).2.2]
          exact this
        · have := hD.setP 5 (I ((d.ops : Int) + 1))
          rw [hD.pp] at this
          exact this
  have HQ2 : Hid (Calls Try.prog 45 #[PT L.p, I i, .bool true, .func (.func 48) #[] #[PT w.heap.size, PT (w.heap.size + 1), PT (w.heap.size + 2)]]
      (((w.alloc (.cells #[PT L.p] 24)).alloc (.cells #[I i] 3)).alloc (.cells (rowB 64 (bkF b)) 39)) (PostD w L (writeD d i b).1 (I (writeD d i b).2))) := Lib.hid (by rw [hw1, ← hZ]; exact HQ)
  clear hw1 r0 r1 r2 hown k1 h HQ hs1 hZ
  go_enter Try.func25, Try.ntmps25
  go_wp2_with (go_at_call 45; (with_reducible refine HQ2.out.mono ?_); rintro e w2 ⟨L', rfl, hW, hD⟩; replace hW := Lib.hid hW; replace hD := Lib.hid hD)
  go_ret
  exact ⟨L', rfl, hW.out, hD.out⟩
end Go.Proofs.Ytdohohafdplkiaa
