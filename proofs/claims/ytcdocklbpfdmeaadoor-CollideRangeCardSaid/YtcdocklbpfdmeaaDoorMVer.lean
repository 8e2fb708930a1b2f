import Derived.Test.YtcdocklbpfdmeaaDoorMTop

/- Verify: what stands in a range, by a span. -/
set_option linter.unusedSimpArgs false
set_option linter.unusedVariables false
set_option maxRecDepth 20000
namespace Go.Proofs.YtcdocklbpfdmeaaDoor
open Go.RowKit
def keyAt (ps : List Pr) (i : Nat) : ByteArray := (prAt ps i).1
def badV (r : Rg) (t f : Int) (ps : List Pr) : Bool :=
  (!ltS (keyAt ps 0) r.lo && decide (0 < f)) || ((ltS (keyAt ps (ps.length - 1)) r.lo || inP r (keyAt ps (ps.length - 1))) && decide (f + ps.length < t))
def verS (root : Dg) (r : Rg) (t f : Int) (ps : List Pr) (qs : List Dg) : Option (List Pr) :=
  if topS t f ps qs = some root then (if t = 0 then some [] else if badV r t f ps then none else some (ps.filter fun p => inP r p.1)) else none
def errV (o : Option (List Pr)) : Int := if o.isSome then 0 else 251
@[go_sem] theorem buildRun_cell (s t : ByteArray) (w : World) : buildRun Tryd.prog 22 (.agg #[.string s, .string t]) w = .ok (.value (.slice (some ⟨w.heap.size, 0, none⟩) 1 1)) (w.alloc (.cells #[.string s, .string t] 42)) := by
  unfold buildRun
  have hi : (Tryd.prog.info? 42).map (fun i => (i.zero, i.size)) = some (some (.agg #[.string ⟨#[]⟩, .string ⟨#[]⟩]), 2) := by kernel_rfl
  obtain ⟨i, hi1, hi2⟩ := Option.map_eq_some_iff.1 hi
  simp only [Prod.mk.injEq] at hi2
  simp [Instr.buildSlice, run_underlying Tryd.underlying22, Go.sizeOf, typeInfo, zeroValue, hi1, hi2.1, hi2.2, Instr.fill, Value.cells, newRow, go_sem]
theorem slp_one {w w' : World} {g : Nat} (p : Pr) (k : Ex (w.alloc (.cells (PC p) 42)) w') (hg : g = w.heap.size) : SlP w' (some ⟨g, 0, none⟩) [p] := by
  subst hg
  have hb := ex_block k (heap_alloc_new w _)
  refine ⟨Or.inr ⟨_, 0, rfl, (Array.getElem?_eq_some_iff.1 hb).1, fun i e he => ?_⟩⟩
  have hi : i = 0 := by
    have := (List.getElem?_eq_some_iff.1 he).1
    simpa using this
  subst hi
  obtain rfl : p = e := by simpa using he
  rw [Nat.zero_mul, Nat.add_zero]
  exact (block_cells (n := 2) hb rfl).1
theorem filter_snoc (f : Pr → Bool) (ps : List Pr) (k : Nat) (h : k < ps.length) : (ps.take (k + 1)).filter f = (ps.take k).filter f ++ (if f (prAt ps k) then [prAt ps k] else []) := by
  rw [List.take_add_one, List.filter_append, prAt_get h]
  simp only [Option.toList_some, List.filter_cons, List.filter_nil]
/-- Pairs and an error. -/
def PostV (W : World) (l : List Pr) (err : Int) (e : Ending) (w' : World) : Prop := ∃ v, e = .returned (.tuple #[v, I err]) ∧ OwnP w' W.heap.size v l ∧ ∃ X, w' = wx W X
abbrev wV (w : World) (x : Dg) (lo hi : ByteArray) (op : Bool) (T F : Nat) (pa qa : Option Addr) (m L2 pc qc : Nat) : World := ((w.alloc (.cells (rowB 32 (dF x)) 46)).alloc (.cells #[.string lo, .string hi, .bool op] 24)).alloc (.cells #[I T, I F, .slice pa (m + 1) pc, .slice qa L2 qc] 27)
set_option maxHeartbeats 4000000 in
theorem verify_any {w0 : World} (G : Glob w0) (root : Dg) (r : Rg) (t f : Int) (ps : List Pr) (qs : List Dg) (pa qa : Option Addr) (pc qc : Nat) (w : World) (k0 : Ex w0 w) (hpc : ps.length ≤ pc) (hpm : pc ≤ maxLen) (hqc : qs.length ≤ qc) (hqm : qc ≤ maxLen) (hps : SlP w pa ps) (hqs : SlD w qa qs) :
    Calls Tryd.prog 20 #[.agg (rowB 32 (dF root)), .agg (RC r), .agg #[I t, I f, .slice pa ps.length pc, .slice qa qs.length qc]] w (PostV w ((verS root r t f ps qs).getD []) (errV (verS root r t f ps qs))) := by
  replace G := G.ex k0
  clear k0
  have HT : Hid (∀ w', Ex w w' → Calls Tryd.prog 66 #[.agg #[I t, I f, .slice pa ps.length pc, .slice qa qs.length qc]] w' (Post w' (.tuple #[.agg (rowB 32 (dF ((topS t f ps qs).getD zeroD))), I (errT (topS t f ps qs))]))) := Lib.hid fun w' k => top_any G t f ps qs pa qa pc qc w' k hpc hpm hqc hqm (hps.ex k) (hqs.ex k)
  obtain ⟨lo, hi, op⟩ := r
  cases ho : topS t f ps qs with
  | none =>
    have hx : verS root ⟨lo, hi, op⟩ t f ps qs = none := by unfold verS; rw [ho, if_neg (by simp)]
    rw [hx]
    rw [ho] at HT
    simp only [Option.getD_none, errV, errT, Option.isSome_none, Bool.false_eq_true, if_false] at HT ⊢
    rw [row_zero] at HT
    generalize ps.length = L at *
    generalize qs.length = L2 at *
    unfold RC
    clear hx ho hps hqs
    go_enter Tryd.func20, Tryd.ntmps20
    go_wp2_with (go_at_call 66; (with_reducible refine (HT.out _ (by (try show Ex _ _); with_reducible repeat (first | exact ex_refl _ | assumption | refine ex_drewL ?_ | refine ex_appR ?_ _ | refine ex_wx ?_ _ | refine ex_drew ?_ | refine ex_alloc ?_ _))).mono ?_); rintro e w2 ⟨rfl, X, rfl⟩)
    go_ret2
    exact ⟨_, rfl, ownp_nil _ _, (by (try show Ex _ _); with_reducible repeat (first | exact ex_refl _ | assumption | refine ex_drewL ?_ | refine ex_appR ?_ _ | refine ex_wx ?_ _ | refine ex_drew ?_ | refine ex_alloc ?_ _))⟩
  | some x =>
    rw [ho] at HT
    have hok : okS t f ps := by
      by_cases h : okS t f ps
      · exact h
      · unfold topS at ho; rw [if_neg h] at ho; cases ho
    simp only [Option.getD_some, errT, Option.isSome_some, if_true] at HT
    have hE := eqD x root
    by_cases hxr : x = root
    · rw [decide_eq_true hxr] at hE
      subst hxr
      have hok2 := hok
      obtain ⟨o1, o2, o3, o4, o5, o6⟩ := hok2
      obtain ⟨T, rfl⟩ : ∃ T : Nat, t = T := ⟨t.toNat, by omega⟩
      obtain ⟨F, rfl⟩ : ∃ F : Nat, f = F := ⟨f.toNat, by omega⟩
      by_cases h0 : T = 0
      · subst h0
        have hx : verS x ⟨lo, hi, op⟩ ((0 : Nat) : Int) F ps qs = some [] := by unfold verS; rw [ho, if_pos rfl, if_pos (show ((0 : Nat) : Int) = 0 from rfl)]
        rw [hx]
        simp only [Option.getD_some, errV, Option.isSome_some, if_true]
        rw [show ((0 : Nat) : Int) = 0 from rfl] at HT ⊢
        generalize ps.length = L at *
        generalize qs.length = L2 at *
        unfold RC
        clear hx ho hps hqs hok o1 o2 o3 o4 o5 o6
        go_enter Tryd.func20, Tryd.ntmps20
        go_wp2_with (go_at_call 66; (with_reducible refine (HT.out _ (by (try show Ex _ _); with_reducible repeat (first | exact ex_refl _ | assumption | refine ex_drewL ?_ | refine ex_appR ?_ _ | refine ex_wx ?_ _ | refine ex_drew ?_ | refine ex_alloc ?_ _))).mono ?_); rintro e w2 ⟨rfl, X, rfl⟩)
        go_ret2
        exact ⟨_, rfl, ownp_nil _ _, (by (try show Ex _ _); with_reducible repeat (first | exact ex_refl _ | assumption | refine ex_drewL ?_ | refine ex_appR ?_ _ | refine ex_wx ?_ _ | refine ex_drew ?_ | refine ex_alloc ?_ _))⟩
      · have v0 : ((T : Int) == 0) = false := beq_eq_false_iff_ne.2 (by omega)
        have hl0 : ps.length ≠ 0 := by
          intro h
          unfold topS at ho
          rw [if_pos hok, if_neg (by omega), if_pos h] at ho
          cases ho
        obtain ⟨m, hm⟩ : ∃ m, ps.length = m + 1 := ⟨ps.length - 1, by omega⟩
        have hx : verS x ⟨lo, hi, op⟩ T F ps qs = if badV ⟨lo, hi, op⟩ T F ps then none else some (ps.filter fun p => inP ⟨lo, hi, op⟩ p.1) := by unfold verS; rw [ho, if_pos rfl, if_neg (by omega)]
        rw [hx]
        obtain ⟨g, off, rfl, hg, _, r1, _⟩ := hps.row (i := 0) (by omega)
        obtain ⟨g', off', he, _, _, r2, _⟩ := hps.row (i := m) (by omega)
        cases he
        rw [Nat.zero_mul, Nat.add_zero] at r1
        unfold badV keyAt
        rw [hm, Nat.add_sub_cancel]
        have HIN := Lib.hid (fun w' => in_any ⟨lo, hi, op⟩ (prAt ps m).1 w')
        unfold RC at HIN ⊢
        simp only at HIN
        have HPS := Lib.hid hps
        have HM := Lib.hid hm
        rw [hm] at HT hpc o4 o5
        obtain ⟨L2, hL2⟩ : ∃ L2, qs.length = L2 := ⟨_, rfl⟩
        rw [hL2] at HT ⊢
        have HOK := Lib.hid hok
        clear hx ho hps hqs hok o6 hm hL2 hl0 h0 hqc
        have hcF : ((F : Int) + (m + 1 : Nat) < T) ↔ F + (m + 1) < T := by omega
        generalize (prAt ps 0).1 = ka at r1 ⊢
        generalize (prAt ps m).1 = kb at r2 HIN ⊢
        obtain ⟨b1, e1⟩ : ∃ b, Op.bytesLess ka.toList lo.toList = b := ⟨_, rfl⟩
        obtain ⟨b3, e3⟩ : ∃ b, Op.bytesLess kb.toList lo.toList = b := ⟨_, rfl⟩
        unfold ltS
        simp only
        rw [e1, e3]
        generalize inP ⟨lo, hi, op⟩ kb = b4 at HIN ⊢
        clear hcF
        have HE1 := Lib.hid e1
        by_cases hF : F = 0
        · have w1 : decide ((0 : Int) < F) = false := decide_eq_false (by omega)
          have w2 : decide (0 < F) = false := decide_eq_false (by omega)
          have w4 : decide (F = 0) = true := decide_eq_true hF
          rw [w1]
          clear hF
          cases b1
          all_goals
            by_cases h5 : F + (m + 1) < T
            · have w5 : decide (F + (m + 1) < T) = true := decide_eq_true h5
              have w6 : decide ((F : Int) + (m + 1 : Nat) < T) = true := decide_eq_true (by omega)
              have w7 : decide ((F : Int) + ((m : Int) + 1) < T) = true := decide_eq_true (by omega)
              rw [w6]
              clear h5
              cases b3
              · cases b4
                · rw [if_neg (by simp)]
                  simp only [Option.getD_some, errV, Option.isSome_some, if_true]
                  go_enter Tryd.func20, Tryd.ntmps20
                  go_wp2_with (go_at_call 66; (with_reducible refine (HT.out _ (by (try show Ex _ _); with_reducible repeat (first | exact ex_refl _ | assumption | refine ex_drewL ?_ | refine ex_appR ?_ _ | refine ex_wx ?_ _ | refine ex_drew ?_ | refine ex_alloc ?_ _))).mono ?_); rintro e w2 ⟨rfl, X, rfl⟩)
                  refine wp_region_seq [(0, true), (1, true), (2, true), (3, true), (4, true), (5, true), (6, true), (7, true), (8, true), (9, true), (10, true), (11, true), (12, true), (13, true), (14, true), (15, true)] (by kernel_rfl) (by kernel_rfl) (fun _ _ d _ _ h => by cases d <;> exact h) ?_
                  simp only [List.map_cons, List.map_nil, nth]
                  repeat (first | ((with_reducible refine wpSeq_look ?_); go_big_quiet_step (fail); (with_reducible refine wpQuiet_nil ?_)) | ((with_reducible refine wpSeq_effF ?_ ?_); (focus rfl); go_simp) | ((with_reducible refine wpSeq_eff ?_ ?_); (focus rfl); (try dsimp only); go_wp2_with (fail); refine mixQ_mk (by (try show Ex _ _); with_reducible repeat (first | exact ex_refl _ | assumption | refine ex_drewL ?_ | refine ex_appR ?_ _ | refine ex_wx ?_ _ | refine ex_drew ?_ | refine ex_alloc ?_ _)) ?_))
                  refine wpSeq_nil ?_
                  go_wp2_with (go_at_call 17; (with_reducible refine (HIN.out _).mono ?_); rintro e w2 ⟨rfl, X3, rfl⟩)
                  go_loopw [12, 78] (fun v i wr => ∃ k : Nat, k ≤ m + 1 ∧ i = I k ∧ Hid (OwnP wr (wV w x lo hi op T F (some ⟨g, off, none⟩) qa m L2 pc qc).heap.size v ((ps.take k).filter fun p => inP ⟨lo, hi, op⟩ p.1)) ∧ Ex (wV w x lo hi op T F (some ⟨g, off, none⟩) qa m L2 pc qc) wr) (fun _ i _ => m + 1 - (intOf i).toNat)
                  case atStart => exact ⟨0, by omega, rfl, Lib.hid (ownp_nil _ _), (by (try show Ex _ _); with_reducible repeat (first | exact ex_refl _ | assumption | refine ex_drewL ?_ | refine ex_appR ?_ _ | refine ex_wx ?_ _ | refine ex_drew ?_ | refine ex_alloc ?_ _))⟩
                  case round =>
                    obtain ⟨k, hk, rfl, hown, kr⟩ := hrel
                    have KW := kr
                    have Kw : Ex w wr := ex_trans (by (try show Ex _ _); with_reducible repeat (first | exact ex_refl _ | assumption | refine ex_drewL ?_ | refine ex_appR ?_ _ | refine ex_wx ?_ _ | refine ex_drew ?_ | refine ex_alloc ?_ _)) kr
                    by_cases hlt : k < m + 1
                    · obtain ⟨g2, off2, he2, t1, _, t2, t3⟩ := (HPS.out.ex Kw).row (i := k) (by have := HM.out; omega)
                      cases he2
                      have HB := heap_alloc_new (w.alloc (.cells (rowB 32 (dF x)) 46)) (.cells #[.string lo, .string hi, .bool op] 24)
                      have HB1 : wr.heap[w.heap.size + 1]? = some (.cells #[.string lo, .string hi, .bool op] 24 (0, 0)) := by
                        have := ex_block (ex_trans (w := (w.alloc (.cells (rowB 32 (dF x)) 46)).alloc (.cells #[.string lo, .string hi, .bool op] 24)) (by (try show Ex _ _); with_reducible repeat (first | exact ex_refl _ | assumption | refine ex_drewL ?_ | refine ex_appR ?_ _ | refine ex_wx ?_ _ | refine ex_drew ?_ | refine ex_alloc ?_ _)) kr) HB
                        have h3 : (w.alloc (.cells (rowB 32 (dF x)) 46)).heap.size = w.heap.size + 1 := by simp [go_sem]
                        rwa [h3] at this
                      have s0 := (block_cell (o := 0) HB1 rfl).1
                      have s1 := (block_cell (o := 1) HB1 rfl).1
                      have s2 := (block_cell (o := 2) HB1 rfl).1
                      have s3 : w.heap.size + 1 < wr.heap.size := (Array.getElem?_eq_some_iff.1 HB1).1
                      have HF := Lib.hid (filter_snoc (fun p => inP ⟨lo, hi, op⟩ p.1) ps k (by have := HM.out; omega))
                      have HIK := Lib.hid (fun w' => in_any ⟨lo, hi, op⟩ (prAt ps k).1 w')
                      have HLN : Hid (((ps.take k).filter fun p => inP ⟨lo, hi, op⟩ p.1).length ≤ 300) := Lib.hid (by
                        have h1 := List.length_filter_le (fun p : Pr => inP ⟨lo, hi, op⟩ p.1) (ps.take k)
                        have h2 : (ps.take k).length ≤ k := List.length_take_le _ _
                        omega)
                      have hsl := Lib.hid (fun (w0 : World) w' (gg : Nat) (k' : Ex (w0.alloc (.cells (PC (prAt ps k)) 42)) w') (hgg : gg = w0.heap.size) => slp_one (prAt ps k) k' hgg)
                      unfold RC at HIK
                      unfold PC at hsl
                      simp only at HIK
                      clear HB HB1 kr
                      generalize prAt ps k = pk at t2 t3 HF HIK hsl
                      obtain ⟨sk, tk⟩ := pk
                      simp only at t2 t3 HF HIK hsl
                      cases hin : inP ⟨lo, hi, op⟩ sk with
                      | false =>
                        rw [hin] at HIK HF
                        simp only [Bool.false_eq_true, if_false, List.append_nil] at HF
                        clear hin hsl
                        go_wp2_with (go_at_call 17; (with_reducible refine (HIK.out _).mono ?_); rintro e w2 ⟨rfl, X3, rfl⟩)
                        refine ⟨⟨k + 1, by omega, by go_num, Lib.hid (by rw [HF.out]; exact hown.out.ex (by (try show Ex _ _); with_reducible repeat (first | exact ex_refl _ | assumption | refine ex_drewL ?_ | refine ex_appR ?_ _ | refine ex_wx ?_ _ | refine ex_drew ?_ | refine ex_alloc ?_ _))), (by (try show Ex _ _); with_reducible repeat (first | exact ex_refl _ | assumption | refine ex_drewL ?_ | refine ex_appR ?_ _ | refine ex_wx ?_ _ | refine ex_drew ?_ | refine ex_alloc ?_ _))⟩, by simp [intOf]; omega⟩
                      | true =>
                        rw [hin] at HIK HF
                        simp only [if_true] at HF
                        clear hin
                        go_wp2_with (first | (go_at_call 17; (with_reducible refine (HIK.out _).mono ?_); rintro e w2 ⟨rfl, X3, rfl⟩) | (at_builtin; refine wpAppP (r := [(sk, tk)]) _ _ rfl rfl (hown.out.ex (by (try show Ex _ _); with_reducible repeat (first | exact ex_refl _ | assumption | refine ex_drewL ?_ | refine ex_appR ?_ _ | refine ex_wx ?_ _ | refine ex_drew ?_ | refine ex_alloc ?_ _))) rfl rfl rfl (hsl.out _ _ _ (by (try show Ex _ _); with_reducible repeat (first | exact ex_refl _ | assumption | refine ex_drewL ?_ | refine ex_appR ?_ _ | refine ex_wx ?_ _ | refine ex_drew ?_ | refine ex_alloc ?_ _)) (by simp [go_sem])) (by have := HLN.out; simp; omega) (by have := ex_size KW; simp [go_sem] at this ⊢; omega) (fun v1 w1 hown1 hbe => ?_)))
                        refine ⟨⟨k + 1, by omega, by go_num, Lib.hid (by rw [HF.out]; exact hown1), ex_of_below ((ex_below (by (try show Ex _ _); with_reducible repeat (first | exact ex_refl _ | assumption | refine ex_drewL ?_ | refine ex_appR ?_ _ | refine ex_wx ?_ _ | refine ex_drew ?_ | refine ex_alloc ?_ _))).trans hbe)⟩, by simp [intOf]; omega⟩
                    · obtain rfl : k = m + 1 := by omega
                      have hfin : ps.take (m + 1) = ps := List.take_of_length_le (by have := HM.out; omega)
                      go_wp2
                      go_ret2
                      exact ⟨_, rfl, by have h := owns_le hown.out (Z' := w.heap.size) (by simp [go_sem] <;> omega); rw [hfin] at h; exact h, (by (try show Ex _ _); with_reducible repeat (first | exact ex_refl _ | assumption | refine ex_drewL ?_ | refine ex_appR ?_ _ | refine ex_wx ?_ _ | refine ex_drew ?_ | refine ex_alloc ?_ _))⟩
                · rw [if_pos (by simp)]
                  simp only [Option.getD_none, errV, Option.isSome_none, Bool.false_eq_true, if_false]
                  go_enter Tryd.func20, Tryd.ntmps20
                  go_wp2_with (go_at_call 66; (with_reducible refine (HT.out _ (by (try show Ex _ _); with_reducible repeat (first | exact ex_refl _ | assumption | refine ex_drewL ?_ | refine ex_appR ?_ _ | refine ex_wx ?_ _ | refine ex_drew ?_ | refine ex_alloc ?_ _))).mono ?_); rintro e w2 ⟨rfl, X, rfl⟩)
                  refine wp_region_seq [(0, true), (1, true), (2, true), (3, true), (4, true), (5, true), (6, true), (7, true), (8, true), (9, true), (10, true), (11, true), (12, true), (13, true), (14, true), (15, true)] (by kernel_rfl) (by kernel_rfl) (fun _ _ d _ _ h => by cases d <;> exact h) ?_
                  simp only [List.map_cons, List.map_nil, nth]
                  repeat (first | ((with_reducible refine wpSeq_look ?_); go_big_quiet_step (fail); (with_reducible refine wpQuiet_nil ?_)) | ((with_reducible refine wpSeq_effF ?_ ?_); (focus rfl); go_simp) | ((with_reducible refine wpSeq_eff ?_ ?_); (focus rfl); (try dsimp only); go_wp2_with (fail); refine mixQ_mk (by (try show Ex _ _); with_reducible repeat (first | exact ex_refl _ | assumption | refine ex_drewL ?_ | refine ex_appR ?_ _ | refine ex_wx ?_ _ | refine ex_drew ?_ | refine ex_alloc ?_ _)) ?_))
                  refine wpSeq_nil ?_
                  go_wp2_with (go_at_call 17; (with_reducible refine (HIN.out _).mono ?_); rintro e w2 ⟨rfl, X3, rfl⟩)
                  go_ret2
                  exact ⟨_, rfl, ownp_nil _ _, (by (try show Ex _ _); with_reducible repeat (first | exact ex_refl _ | assumption | refine ex_drewL ?_ | refine ex_appR ?_ _ | refine ex_wx ?_ _ | refine ex_drew ?_ | refine ex_alloc ?_ _))⟩
              · rw [if_pos (by simp)]
                simp only [Option.getD_none, errV, Option.isSome_none, Bool.false_eq_true, if_false]
                go_enter Tryd.func20, Tryd.ntmps20
                go_wp2_with (go_at_call 66; (with_reducible refine (HT.out _ (by (try show Ex _ _); with_reducible repeat (first | exact ex_refl _ | assumption | refine ex_drewL ?_ | refine ex_appR ?_ _ | refine ex_wx ?_ _ | refine ex_drew ?_ | refine ex_alloc ?_ _))).mono ?_); rintro e w2 ⟨rfl, X, rfl⟩)
                refine wp_region_seq [(0, true), (1, true), (2, true), (3, true), (4, true), (5, true), (6, true), (7, true), (8, true), (9, true), (10, true), (11, true), (12, true), (13, true), (14, true), (15, true)] (by kernel_rfl) (by kernel_rfl) (fun _ _ d _ _ h => by cases d <;> exact h) ?_
                simp only [List.map_cons, List.map_nil, nth]
                repeat (first | ((with_reducible refine wpSeq_look ?_); go_big_quiet_step (fail); (with_reducible refine wpQuiet_nil ?_)) | ((with_reducible refine wpSeq_effF ?_ ?_); (focus rfl); go_simp) | ((with_reducible refine wpSeq_eff ?_ ?_); (focus rfl); (try dsimp only); go_wp2_with (fail); refine mixQ_mk (by (try show Ex _ _); with_reducible repeat (first | exact ex_refl _ | assumption | refine ex_drewL ?_ | refine ex_appR ?_ _ | refine ex_wx ?_ _ | refine ex_drew ?_ | refine ex_alloc ?_ _)) ?_))
                refine wpSeq_nil ?_
                go_wp2_with (go_at_call 17; (with_reducible refine (HIN.out _).mono ?_); rintro e w2 ⟨rfl, X3, rfl⟩)
                go_ret2
                exact ⟨_, rfl, ownp_nil _ _, (by (try show Ex _ _); with_reducible repeat (first | exact ex_refl _ | assumption | refine ex_drewL ?_ | refine ex_appR ?_ _ | refine ex_wx ?_ _ | refine ex_drew ?_ | refine ex_alloc ?_ _))⟩
            · have w5 : decide (F + (m + 1) < T) = false := decide_eq_false h5
              have w6 : decide ((F : Int) + (m + 1 : Nat) < T) = false := decide_eq_false (by omega)
              have w7 : decide ((F : Int) + ((m : Int) + 1) < T) = false := decide_eq_false (by omega)
              rw [w6]
              clear h5
              cases b3
              · cases b4
                · rw [if_neg (by simp)]
                  simp only [Option.getD_some, errV, Option.isSome_some, if_true]
                  go_enter Tryd.func20, Tryd.ntmps20
                  go_wp2_with (go_at_call 66; (with_reducible refine (HT.out _ (by (try show Ex _ _); with_reducible repeat (first | exact ex_refl _ | assumption | refine ex_drewL ?_ | refine ex_appR ?_ _ | refine ex_wx ?_ _ | refine ex_drew ?_ | refine ex_alloc ?_ _))).mono ?_); rintro e w2 ⟨rfl, X, rfl⟩)
                  refine wp_region_seq [(0, true), (1, true), (2, true), (3, true), (4, true), (5, true), (6, true), (7, true), (8, true), (9, true), (10, true), (11, true), (12, true), (13, true), (14, true), (15, true)] (by kernel_rfl) (by kernel_rfl) (fun _ _ d _ _ h => by cases d <;> exact h) ?_
                  simp only [List.map_cons, List.map_nil, nth]
                  repeat (first | ((with_reducible refine wpSeq_look ?_); go_big_quiet_step (fail); (with_reducible refine wpQuiet_nil ?_)) | ((with_reducible refine wpSeq_effF ?_ ?_); (focus rfl); go_simp) | ((with_reducible refine wpSeq_eff ?_ ?_); (focus rfl); (try dsimp only); go_wp2_with (fail); refine mixQ_mk (by (try show Ex _ _); with_reducible repeat (first | exact ex_refl _ | assumption | refine ex_drewL ?_ | refine ex_appR ?_ _ | refine ex_wx ?_ _ | refine ex_drew ?_ | refine ex_alloc ?_ _)) ?_))
                  refine wpSeq_nil ?_
                  go_wp2_with (go_at_call 17; (with_reducible refine (HIN.out _).mono ?_); rintro e w2 ⟨rfl, X3, rfl⟩)
                  go_loopw [12, 78] (fun v i wr => ∃ k : Nat, k ≤ m + 1 ∧ i = I k ∧ Hid (OwnP wr (wV w x lo hi op T F (some ⟨g, off, none⟩) qa m L2 pc qc).heap.size v ((ps.take k).filter fun p => inP ⟨lo, hi, op⟩ p.1)) ∧ Ex (wV w x lo hi op T F (some ⟨g, off, none⟩) qa m L2 pc qc) wr) (fun _ i _ => m + 1 - (intOf i).toNat)
                  case atStart => exact ⟨0, by omega, rfl, Lib.hid (ownp_nil _ _), (by (try show Ex _ _); with_reducible repeat (first | exact ex_refl _ | assumption | refine ex_drewL ?_ | refine ex_appR ?_ _ | refine ex_wx ?_ _ | refine ex_drew ?_ | refine ex_alloc ?_ _))⟩
                  case round =>
                    obtain ⟨k, hk, rfl, hown, kr⟩ := hrel
                    have KW := kr
                    have Kw : Ex w wr := ex_trans (by (try show Ex _ _); with_reducible repeat (first | exact ex_refl _ | assumption | refine ex_drewL ?_ | refine ex_appR ?_ _ | refine ex_wx ?_ _ | refine ex_drew ?_ | refine ex_alloc ?_ _)) kr
                    by_cases hlt : k < m + 1
                    · obtain ⟨g2, off2, he2, t1, _, t2, t3⟩ := (HPS.out.ex Kw).row (i := k) (by have := HM.out; omega)
                      cases he2
                      have HB := heap_alloc_new (w.alloc (.cells (rowB 32 (dF x)) 46)) (.cells #[.string lo, .string hi, .bool op] 24)
                      have HB1 : wr.heap[w.heap.size + 1]? = some (.cells #[.string lo, .string hi, .bool op] 24 (0, 0)) := by
                        have := ex_block (ex_trans (w := (w.alloc (.cells (rowB 32 (dF x)) 46)).alloc (.cells #[.string lo, .string hi, .bool op] 24)) (by (try show Ex _ _); with_reducible repeat (first | exact ex_refl _ | assumption | refine ex_drewL ?_ | refine ex_appR ?_ _ | refine ex_wx ?_ _ | refine ex_drew ?_ | refine ex_alloc ?_ _)) kr) HB
                        have h3 : (w.alloc (.cells (rowB 32 (dF x)) 46)).heap.size = w.heap.size + 1 := by simp [go_sem]
                        rwa [h3] at this
                      have s0 := (block_cell (o := 0) HB1 rfl).1
                      have s1 := (block_cell (o := 1) HB1 rfl).1
                      have s2 := (block_cell (o := 2) HB1 rfl).1
                      have s3 : w.heap.size + 1 < wr.heap.size := (Array.getElem?_eq_some_iff.1 HB1).1
                      have HF := Lib.hid (filter_snoc (fun p => inP ⟨lo, hi, op⟩ p.1) ps k (by have := HM.out; omega))
                      have HIK := Lib.hid (fun w' => in_any ⟨lo, hi, op⟩ (prAt ps k).1 w')
                      have HLN : Hid (((ps.take k).filter fun p => inP ⟨lo, hi, op⟩ p.1).length ≤ 300) := Lib.hid (by
                        have h1 := List.length_filter_le (fun p : Pr => inP ⟨lo, hi, op⟩ p.1) (ps.take k)
                        have h2 : (ps.take k).length ≤ k := List.length_take_le _ _
                        omega)
                      have hsl := Lib.hid (fun (w0 : World) w' (gg : Nat) (k' : Ex (w0.alloc (.cells (PC (prAt ps k)) 42)) w') (hgg : gg = w0.heap.size) => slp_one (prAt ps k) k' hgg)
                      unfold RC at HIK
                      unfold PC at hsl
                      simp only at HIK
                      clear HB HB1 kr
                      generalize prAt ps k = pk at t2 t3 HF HIK hsl
                      obtain ⟨sk, tk⟩ := pk
                      simp only at t2 t3 HF HIK hsl
                      cases hin : inP ⟨lo, hi, op⟩ sk with
                      | false =>
                        rw [hin] at HIK HF
                        simp only [Bool.false_eq_true, if_false, List.append_nil] at HF
                        clear hin hsl
                        go_wp2_with (go_at_call 17; (with_reducible refine (HIK.out _).mono ?_); rintro e w2 ⟨rfl, X3, rfl⟩)
                        refine ⟨⟨k + 1, by omega, by go_num, Lib.hid (by rw [HF.out]; exact hown.out.ex (by (try show Ex _ _); with_reducible repeat (first | exact ex_refl _ | assumption | refine ex_drewL ?_ | refine ex_appR ?_ _ | refine ex_wx ?_ _ | refine ex_drew ?_ | refine ex_alloc ?_ _))), (by (try show Ex _ _); with_reducible repeat (first | exact ex_refl _ | assumption | refine ex_drewL ?_ | refine ex_appR ?_ _ | refine ex_wx ?_ _ | refine ex_drew ?_ | refine ex_alloc ?_ _))⟩, by simp [intOf]; omega⟩
                      | true =>
                        rw [hin] at HIK HF
                        simp only [if_true] at HF
                        clear hin
                        go_wp2_with (first | (go_at_call 17; (with_reducible refine (HIK.out _).mono ?_); rintro e w2 ⟨rfl, X3, rfl⟩) | (at_builtin; refine wpAppP (r := [(sk, tk)]) _ _ rfl rfl (hown.out.ex (by (try show Ex _ _); with_reducible repeat (first | exact ex_refl _ | assumption | refine ex_drewL ?_ | refine ex_appR ?_ _ | refine ex_wx ?_ _ | refine ex_drew ?_ | refine ex_alloc ?_ _))) rfl rfl rfl (hsl.out _ _ _ (by (try show Ex _ _); with_reducible repeat (first | exact ex_refl _ | assumption | refine ex_drewL ?_ | refine ex_appR ?_ _ | refine ex_wx ?_ _ | refine ex_drew ?_ | refine ex_alloc ?_ _)) (by simp [go_sem])) (by have := HLN.out; simp; omega) (by have := ex_size KW; simp [go_sem] at this ⊢; omega) (fun v1 w1 hown1 hbe => ?_)))
                        refine ⟨⟨k + 1, by omega, by go_num, Lib.hid (by rw [HF.out]; exact hown1), ex_of_below ((ex_below (by (try show Ex _ _); with_reducible repeat (first | exact ex_refl _ | assumption | refine ex_drewL ?_ | refine ex_appR ?_ _ | refine ex_wx ?_ _ | refine ex_drew ?_ | refine ex_alloc ?_ _))).trans hbe)⟩, by simp [intOf]; omega⟩
                    · obtain rfl : k = m + 1 := by omega
                      have hfin : ps.take (m + 1) = ps := List.take_of_length_le (by have := HM.out; omega)
                      go_wp2
                      go_ret2
                      exact ⟨_, rfl, by have h := owns_le hown.out (Z' := w.heap.size) (by simp [go_sem] <;> omega); rw [hfin] at h; exact h, (by (try show Ex _ _); with_reducible repeat (first | exact ex_refl _ | assumption | refine ex_drewL ?_ | refine ex_appR ?_ _ | refine ex_wx ?_ _ | refine ex_drew ?_ | refine ex_alloc ?_ _))⟩
                · rw [if_neg (by simp)]
                  simp only [Option.getD_some, errV, Option.isSome_some, if_true]
                  go_enter Tryd.func20, Tryd.ntmps20
                  go_wp2_with (go_at_call 66; (with_reducible refine (HT.out _ (by (try show Ex _ _); with_reducible repeat (first | exact ex_refl _ | assumption | refine ex_drewL ?_ | refine ex_appR ?_ _ | refine ex_wx ?_ _ | refine ex_drew ?_ | refine ex_alloc ?_ _))).mono ?_); rintro e w2 ⟨rfl, X, rfl⟩)
                  refine wp_region_seq [(0, true), (1, true), (2, true), (3, true), (4, true), (5, true), (6, true), (7, true), (8, true), (9, true), (10, true), (11, true), (12, true), (13, true), (14, true), (15, true)] (by kernel_rfl) (by kernel_rfl) (fun _ _ d _ _ h => by cases d <;> exact h) ?_
                  simp only [List.map_cons, List.map_nil, nth]
                  repeat (first | ((with_reducible refine wpSeq_look ?_); go_big_quiet_step (fail); (with_reducible refine wpQuiet_nil ?_)) | ((with_reducible refine wpSeq_effF ?_ ?_); (focus rfl); go_simp) | ((with_reducible refine wpSeq_eff ?_ ?_); (focus rfl); (try dsimp only); go_wp2_with (fail); refine mixQ_mk (by (try show Ex _ _); with_reducible repeat (first | exact ex_refl _ | assumption | refine ex_drewL ?_ | refine ex_appR ?_ _ | refine ex_wx ?_ _ | refine ex_drew ?_ | refine ex_alloc ?_ _)) ?_))
                  refine wpSeq_nil ?_
                  go_wp2_with (go_at_call 17; (with_reducible refine (HIN.out _).mono ?_); rintro e w2 ⟨rfl, X3, rfl⟩)
                  go_loopw [12, 78] (fun v i wr => ∃ k : Nat, k ≤ m + 1 ∧ i = I k ∧ Hid (OwnP wr (wV w x lo hi op T F (some ⟨g, off, none⟩) qa m L2 pc qc).heap.size v ((ps.take k).filter fun p => inP ⟨lo, hi, op⟩ p.1)) ∧ Ex (wV w x lo hi op T F (some ⟨g, off, none⟩) qa m L2 pc qc) wr) (fun _ i _ => m + 1 - (intOf i).toNat)
                  case atStart => exact ⟨0, by omega, rfl, Lib.hid (ownp_nil _ _), (by (try show Ex _ _); with_reducible repeat (first | exact ex_refl _ | assumption | refine ex_drewL ?_ | refine ex_appR ?_ _ | refine ex_wx ?_ _ | refine ex_drew ?_ | refine ex_alloc ?_ _))⟩
                  case round =>
                    obtain ⟨k, hk, rfl, hown, kr⟩ := hrel
                    have KW := kr
                    have Kw : Ex w wr := ex_trans (by (try show Ex _ _); with_reducible repeat (first | exact ex_refl _ | assumption | refine ex_drewL ?_ | refine ex_appR ?_ _ | refine ex_wx ?_ _ | refine ex_drew ?_ | refine ex_alloc ?_ _)) kr
                    by_cases hlt : k < m + 1
                    · obtain ⟨g2, off2, he2, t1, _, t2, t3⟩ := (HPS.out.ex Kw).row (i := k) (by have := HM.out; omega)
                      cases he2
                      have HB := heap_alloc_new (w.alloc (.cells (rowB 32 (dF x)) 46)) (.cells #[.string lo, .string hi, .bool op] 24)
                      have HB1 : wr.heap[w.heap.size + 1]? = some (.cells #[.string lo, .string hi, .bool op] 24 (0, 0)) := by
                        have := ex_block (ex_trans (w := (w.alloc (.cells (rowB 32 (dF x)) 46)).alloc (.cells #[.string lo, .string hi, .bool op] 24)) (by (try show Ex _ _); with_reducible repeat (first | exact ex_refl _ | assumption | refine ex_drewL ?_ | refine ex_appR ?_ _ | refine ex_wx ?_ _ | refine ex_drew ?_ | refine ex_alloc ?_ _)) kr) HB
                        have h3 : (w.alloc (.cells (rowB 32 (dF x)) 46)).heap.size = w.heap.size + 1 := by simp [go_sem]
                        rwa [h3] at this
                      have s0 := (block_cell (o := 0) HB1 rfl).1
                      have s1 := (block_cell (o := 1) HB1 rfl).1
                      have s2 := (block_cell (o := 2) HB1 rfl).1
                      have s3 : w.heap.size + 1 < wr.heap.size := (Array.getElem?_eq_some_iff.1 HB1).1
                      have HF := Lib.hid (filter_snoc (fun p => inP ⟨lo, hi, op⟩ p.1) ps k (by have := HM.out; omega))
                      have HIK := Lib.hid (fun w' => in_any ⟨lo, hi, op⟩ (prAt ps k).1 w')
                      have HLN : Hid (((ps.take k).filter fun p => inP ⟨lo, hi, op⟩ p.1).length ≤ 300) := Lib.hid (by
                        have h1 := List.length_filter_le (fun p : Pr => inP ⟨lo, hi, op⟩ p.1) (ps.take k)
                        have h2 : (ps.take k).length ≤ k := List.length_take_le _ _
                        omega)
                      have hsl := Lib.hid (fun (w0 : World) w' (gg : Nat) (k' : Ex (w0.alloc (.cells (PC (prAt ps k)) 42)) w') (hgg : gg = w0.heap.size) => slp_one (prAt ps k) k' hgg)
                      unfold RC at HIK
                      unfold PC at hsl
                      simp only at HIK
                      clear HB HB1 kr
                      generalize prAt ps k = pk at t2 t3 HF HIK hsl
                      obtain ⟨sk, tk⟩ := pk
                      simp only at t2 t3 HF HIK hsl
                      cases hin : inP ⟨lo, hi, op⟩ sk with
                      | false =>
                        rw [hin] at HIK HF
                        simp only [Bool.false_eq_true, if_false, List.append_nil] at HF
                        clear hin hsl
                        go_wp2_with (go_at_call 17; (with_reducible refine (HIK.out _).mono ?_); rintro e w2 ⟨rfl, X3, rfl⟩)
                        refine ⟨⟨k + 1, by omega, by go_num, Lib.hid (by rw [HF.out]; exact hown.out.ex (by (try show Ex _ _); with_reducible repeat (first | exact ex_refl _ | assumption | refine ex_drewL ?_ | refine ex_appR ?_ _ | refine ex_wx ?_ _ | refine ex_drew ?_ | refine ex_alloc ?_ _))), (by (try show Ex _ _); with_reducible repeat (first | exact ex_refl _ | assumption | refine ex_drewL ?_ | refine ex_appR ?_ _ | refine ex_wx ?_ _ | refine ex_drew ?_ | refine ex_alloc ?_ _))⟩, by simp [intOf]; omega⟩
                      | true =>
                        rw [hin] at HIK HF
                        simp only [if_true] at HF
                        clear hin
                        go_wp2_with (first | (go_at_call 17; (with_reducible refine (HIK.out _).mono ?_); rintro e w2 ⟨rfl, X3, rfl⟩) | (at_builtin; refine wpAppP (r := [(sk, tk)]) _ _ rfl rfl (hown.out.ex (by (try show Ex _ _); with_reducible repeat (first | exact ex_refl _ | assumption | refine ex_drewL ?_ | refine ex_appR ?_ _ | refine ex_wx ?_ _ | refine ex_drew ?_ | refine ex_alloc ?_ _))) rfl rfl rfl (hsl.out _ _ _ (by (try show Ex _ _); with_reducible repeat (first | exact ex_refl _ | assumption | refine ex_drewL ?_ | refine ex_appR ?_ _ | refine ex_wx ?_ _ | refine ex_drew ?_ | refine ex_alloc ?_ _)) (by simp [go_sem])) (by have := HLN.out; simp; omega) (by have := ex_size KW; simp [go_sem] at this ⊢; omega) (fun v1 w1 hown1 hbe => ?_)))
                        refine ⟨⟨k + 1, by omega, by go_num, Lib.hid (by rw [HF.out]; exact hown1), ex_of_below ((ex_below (by (try show Ex _ _); with_reducible repeat (first | exact ex_refl _ | assumption | refine ex_drewL ?_ | refine ex_appR ?_ _ | refine ex_wx ?_ _ | refine ex_drew ?_ | refine ex_alloc ?_ _))).trans hbe)⟩, by simp [intOf]; omega⟩
                    · obtain rfl : k = m + 1 := by omega
                      have hfin : ps.take (m + 1) = ps := List.take_of_length_le (by have := HM.out; omega)
                      go_wp2
                      go_ret2
                      exact ⟨_, rfl, by have h := owns_le hown.out (Z' := w.heap.size) (by simp [go_sem] <;> omega); rw [hfin] at h; exact h, (by (try show Ex _ _); with_reducible repeat (first | exact ex_refl _ | assumption | refine ex_drewL ?_ | refine ex_appR ?_ _ | refine ex_wx ?_ _ | refine ex_drew ?_ | refine ex_alloc ?_ _))⟩
              · rw [if_neg (by simp)]
                simp only [Option.getD_some, errV, Option.isSome_some, if_true]
                go_enter Tryd.func20, Tryd.ntmps20
                go_wp2_with (go_at_call 66; (with_reducible refine (HT.out _ (by (try show Ex _ _); with_reducible repeat (first | exact ex_refl _ | assumption | refine ex_drewL ?_ | refine ex_appR ?_ _ | refine ex_wx ?_ _ | refine ex_drew ?_ | refine ex_alloc ?_ _))).mono ?_); rintro e w2 ⟨rfl, X, rfl⟩)
                refine wp_region_seq [(0, true), (1, true), (2, true), (3, true), (4, true), (5, true), (6, true), (7, true), (8, true), (9, true), (10, true), (11, true), (12, true), (13, true), (14, true), (15, true)] (by kernel_rfl) (by kernel_rfl) (fun _ _ d _ _ h => by cases d <;> exact h) ?_
                simp only [List.map_cons, List.map_nil, nth]
                repeat (first | ((with_reducible refine wpSeq_look ?_); go_big_quiet_step (fail); (with_reducible refine wpQuiet_nil ?_)) | ((with_reducible refine wpSeq_effF ?_ ?_); (focus rfl); go_simp) | ((with_reducible refine wpSeq_eff ?_ ?_); (focus rfl); (try dsimp only); go_wp2_with (fail); refine mixQ_mk (by (try show Ex _ _); with_reducible repeat (first | exact ex_refl _ | assumption | refine ex_drewL ?_ | refine ex_appR ?_ _ | refine ex_wx ?_ _ | refine ex_drew ?_ | refine ex_alloc ?_ _)) ?_))
                refine wpSeq_nil ?_
                go_wp2_with (go_at_call 17; (with_reducible refine (HIN.out _).mono ?_); rintro e w2 ⟨rfl, X3, rfl⟩)
                go_loopw [12, 78] (fun v i wr => ∃ k : Nat, k ≤ m + 1 ∧ i = I k ∧ Hid (OwnP wr (wV w x lo hi op T F (some ⟨g, off, none⟩) qa m L2 pc qc).heap.size v ((ps.take k).filter fun p => inP ⟨lo, hi, op⟩ p.1)) ∧ Ex (wV w x lo hi op T F (some ⟨g, off, none⟩) qa m L2 pc qc) wr) (fun _ i _ => m + 1 - (intOf i).toNat)
                case atStart => exact ⟨0, by omega, rfl, Lib.hid (ownp_nil _ _), (by (try show Ex _ _); with_reducible repeat (first | exact ex_refl _ | assumption | refine ex_drewL ?_ | refine ex_appR ?_ _ | refine ex_wx ?_ _ | refine ex_drew ?_ | refine ex_alloc ?_ _))⟩
                case round =>
                  obtain ⟨k, hk, rfl, hown, kr⟩ := hrel
                  have KW := kr
                  have Kw : Ex w wr := ex_trans (by (try show Ex _ _); with_reducible repeat (first | exact ex_refl _ | assumption | refine ex_drewL ?_ | refine ex_appR ?_ _ | refine ex_wx ?_ _ | refine ex_drew ?_ | refine ex_alloc ?_ _)) kr
                  by_cases hlt : k < m + 1
                  · obtain ⟨g2, off2, he2, t1, _, t2, t3⟩ := (HPS.out.ex Kw).row (i := k) (by have := HM.out; omega)
                    cases he2
                    have HB := heap_alloc_new (w.alloc (.cells (rowB 32 (dF x)) 46)) (.cells #[.string lo, .string hi, .bool op] 24)
                    have HB1 : wr.heap[w.heap.size + 1]? = some (.cells #[.string lo, .string hi, .bool op] 24 (0, 0)) := by
                      have := ex_block (ex_trans (w := (w.alloc (.cells (rowB 32 (dF x)) 46)).alloc (.cells #[.string lo, .string hi, .bool op] 24)) (by (try show Ex _ _); with_reducible repeat (first | exact ex_refl _ | assumption | refine ex_drewL ?_ | refine ex_appR ?_ _ | refine ex_wx ?_ _ | refine ex_drew ?_ | refine ex_alloc ?_ _)) kr) HB
                      have h3 : (w.alloc (.cells (rowB 32 (dF x)) 46)).heap.size = w.heap.size + 1 := by simp [go_sem]
                      rwa [h3] at this
                    have s0 := (block_cell (o := 0) HB1 rfl).1
                    have s1 := (block_cell (o := 1) HB1 rfl).1
                    have s2 := (block_cell (o := 2) HB1 rfl).1
                    have s3 : w.heap.size + 1 < wr.heap.size := (Array.getElem?_eq_some_iff.1 HB1).1
                    have HF := Lib.hid (filter_snoc (fun p => inP ⟨lo, hi, op⟩ p.1) ps k (by have := HM.out; omega))
                    have HIK := Lib.hid (fun w' => in_any ⟨lo, hi, op⟩ (prAt ps k).1 w')
                    have HLN : Hid (((ps.take k).filter fun p => inP ⟨lo, hi, op⟩ p.1).length ≤ 300) := Lib.hid (by
                      have h1 := List.length_filter_le (fun p : Pr => inP ⟨lo, hi, op⟩ p.1) (ps.take k)
                      have h2 : (ps.take k).length ≤ k := List.length_take_le _ _
                      omega)
                    have hsl := Lib.hid (fun (w0 : World) w' (gg : Nat) (k' : Ex (w0.alloc (.cells (PC (prAt ps k)) 42)) w') (hgg : gg = w0.heap.size) => slp_one (prAt ps k) k' hgg)
                    unfold RC at HIK
                    unfold PC at hsl
                    simp only at HIK
                    clear HB HB1 kr
                    generalize prAt ps k = pk at t2 t3 HF HIK hsl
                    obtain ⟨sk, tk⟩ := pk
                    simp only at t2 t3 HF HIK hsl
                    cases hin : inP ⟨lo, hi, op⟩ sk with
                    | false =>
                      rw [hin] at HIK HF
                      simp only [Bool.false_eq_true, if_false, List.append_nil] at HF
                      clear hin hsl
                      go_wp2_with (go_at_call 17; (with_reducible refine (HIK.out _).mono ?_); rintro e w2 ⟨rfl, X3, rfl⟩)
                      refine ⟨⟨k + 1, by omega, by go_num, Lib.hid (by rw [HF.out]; exact hown.out.ex (by (try show Ex _ _); with_reducible repeat (first | exact ex_refl _ | assumption | refine ex_drewL ?_ | refine ex_appR ?_ _ | refine ex_wx ?_ _ | refine ex_drew ?_ | refine ex_alloc ?_ _))), (by (try show Ex _ _); with_reducible repeat (first | exact ex_refl _ | assumption | refine ex_drewL ?_ | refine ex_appR ?_ _ | refine ex_wx ?_ _ | refine ex_drew ?_ | refine ex_alloc ?_ _))⟩, by simp [intOf]; omega⟩
                    | true =>
                      rw [hin] at HIK HF
                      simp only [if_true] at HF
                      clear hin
                      go_wp2_with (first | (go_at_call 17; (with_reducible refine (HIK.out _).mono ?_); rintro e w2 ⟨rfl, X3, rfl⟩) | (at_builtin; refine wpAppP (r := [(sk, tk)]) _ _ rfl rfl (hown.out.ex (by (try show Ex _ _); with_reducible repeat (first | exact ex_refl _ | assumption | refine ex_drewL ?_ | refine ex_appR ?_ _ | refine ex_wx ?_ _ | refine ex_drew ?_ | refine ex_alloc ?_ _))) rfl rfl rfl (hsl.out _ _ _ (by (try show Ex _ _); with_reducible repeat (first | exact ex_refl _ | assumption | refine ex_drewL ?_ | refine ex_appR ?_ _ | refine ex_wx ?_ _ | refine ex_drew ?_ | refine ex_alloc ?_ _)) (by simp [go_sem])) (by have := HLN.out; simp; omega) (by have := ex_size KW; simp [go_sem] at this ⊢; omega) (fun v1 w1 hown1 hbe => ?_)))
                      refine ⟨⟨k + 1, by omega, by go_num, Lib.hid (by rw [HF.out]; exact hown1), ex_of_below ((ex_below (by (try show Ex _ _); with_reducible repeat (first | exact ex_refl _ | assumption | refine ex_drewL ?_ | refine ex_appR ?_ _ | refine ex_wx ?_ _ | refine ex_drew ?_ | refine ex_alloc ?_ _))).trans hbe)⟩, by simp [intOf]; omega⟩
                  · obtain rfl : k = m + 1 := by omega
                    have hfin : ps.take (m + 1) = ps := List.take_of_length_le (by have := HM.out; omega)
                    go_wp2
                    go_ret2
                    exact ⟨_, rfl, by have h := owns_le hown.out (Z' := w.heap.size) (by simp [go_sem] <;> omega); rw [hfin] at h; exact h, (by (try show Ex _ _); with_reducible repeat (first | exact ex_refl _ | assumption | refine ex_drewL ?_ | refine ex_appR ?_ _ | refine ex_wx ?_ _ | refine ex_drew ?_ | refine ex_alloc ?_ _))⟩
        · have w1 : decide ((0 : Int) < F) = true := decide_eq_true (by omega)
          have w2 : decide (0 < F) = true := decide_eq_true (by omega)
          have w4 : decide (F = 0) = false := decide_eq_false hF
          rw [w1]
          cases b1
          · rw [if_pos (by simp)]
            simp only [Option.getD_none, errV, Option.isSome_none, Bool.false_eq_true, if_false]
            go_enter Tryd.func20, Tryd.ntmps20
            go_wp2_with (go_at_call 66; (with_reducible refine (HT.out _ (by (try show Ex _ _); with_reducible repeat (first | exact ex_refl _ | assumption | refine ex_drewL ?_ | refine ex_appR ?_ _ | refine ex_wx ?_ _ | refine ex_drew ?_ | refine ex_alloc ?_ _))).mono ?_); rintro e w2 ⟨rfl, X, rfl⟩)
            refine wp_region_seq [(0, true), (1, true), (2, true), (3, true), (4, true), (5, true), (6, true), (7, true), (8, true), (9, true), (10, true), (11, true), (12, true), (13, true), (14, true), (15, true)] (by kernel_rfl) (by kernel_rfl) (fun _ _ d _ _ h => by cases d <;> exact h) ?_
            simp only [List.map_cons, List.map_nil, nth]
            repeat (first | ((with_reducible refine wpSeq_look ?_); go_big_quiet_step (fail); (with_reducible refine wpQuiet_nil ?_)) | ((with_reducible refine wpSeq_effF ?_ ?_); (focus rfl); go_simp) | ((with_reducible refine wpSeq_eff ?_ ?_); (focus rfl); (try dsimp only); go_wp2_with (fail); refine mixQ_mk (by (try show Ex _ _); with_reducible repeat (first | exact ex_refl _ | assumption | refine ex_drewL ?_ | refine ex_appR ?_ _ | refine ex_wx ?_ _ | refine ex_drew ?_ | refine ex_alloc ?_ _)) ?_))
            refine wpSeq_nil ?_
            go_wp2_with (go_at_call 17; (with_reducible refine (HIN.out _).mono ?_); rintro e w2 ⟨rfl, X3, rfl⟩)
            go_ret2
            exact ⟨_, rfl, ownp_nil _ _, (by (try show Ex _ _); with_reducible repeat (first | exact ex_refl _ | assumption | refine ex_drewL ?_ | refine ex_appR ?_ _ | refine ex_wx ?_ _ | refine ex_drew ?_ | refine ex_alloc ?_ _))⟩
          · clear hF
            by_cases h5 : F + (m + 1) < T
            · have w5 : decide (F + (m + 1) < T) = true := decide_eq_true h5
              have w6 : decide ((F : Int) + (m + 1 : Nat) < T) = true := decide_eq_true (by omega)
              have w7 : decide ((F : Int) + ((m : Int) + 1) < T) = true := decide_eq_true (by omega)
              rw [w6]
              clear h5
              cases b3
              · cases b4
                · rw [if_neg (by simp)]
                  simp only [Option.getD_some, errV, Option.isSome_some, if_true]
                  go_enter Tryd.func20, Tryd.ntmps20
                  go_wp2_with (go_at_call 66; (with_reducible refine (HT.out _ (by (try show Ex _ _); with_reducible repeat (first | exact ex_refl _ | assumption | refine ex_drewL ?_ | refine ex_appR ?_ _ | refine ex_wx ?_ _ | refine ex_drew ?_ | refine ex_alloc ?_ _))).mono ?_); rintro e w2 ⟨rfl, X, rfl⟩)
                  refine wp_region_seq [(0, true), (1, true), (2, true), (3, true), (4, true), (5, true), (6, true), (7, true), (8, true), (9, true), (10, true), (11, true), (12, true), (13, true), (14, true), (15, true)] (by kernel_rfl) (by kernel_rfl) (fun _ _ d _ _ h => by cases d <;> exact h) ?_
                  simp only [List.map_cons, List.map_nil, nth]
                  repeat (first | ((with_reducible refine wpSeq_look ?_); go_big_quiet_step (fail); (with_reducible refine wpQuiet_nil ?_)) | ((with_reducible refine wpSeq_effF ?_ ?_); (focus rfl); go_simp) | ((with_reducible refine wpSeq_eff ?_ ?_); (focus rfl); (try dsimp only); go_wp2_with (fail); refine mixQ_mk (by (try show Ex _ _); with_reducible repeat (first | exact ex_refl _ | assumption | refine ex_drewL ?_ | refine ex_appR ?_ _ | refine ex_wx ?_ _ | refine ex_drew ?_ | refine ex_alloc ?_ _)) ?_))
                  refine wpSeq_nil ?_
                  go_wp2_with (go_at_call 17; (with_reducible refine (HIN.out _).mono ?_); rintro e w2 ⟨rfl, X3, rfl⟩)
                  go_loopw [12, 78] (fun v i wr => ∃ k : Nat, k ≤ m + 1 ∧ i = I k ∧ Hid (OwnP wr (wV w x lo hi op T F (some ⟨g, off, none⟩) qa m L2 pc qc).heap.size v ((ps.take k).filter fun p => inP ⟨lo, hi, op⟩ p.1)) ∧ Ex (wV w x lo hi op T F (some ⟨g, off, none⟩) qa m L2 pc qc) wr) (fun _ i _ => m + 1 - (intOf i).toNat)
                  case atStart => exact ⟨0, by omega, rfl, Lib.hid (ownp_nil _ _), (by (try show Ex _ _); with_reducible repeat (first | exact ex_refl _ | assumption | refine ex_drewL ?_ | refine ex_appR ?_ _ | refine ex_wx ?_ _ | refine ex_drew ?_ | refine ex_alloc ?_ _))⟩
                  case round =>
                    obtain ⟨k, hk, rfl, hown, kr⟩ := hrel
                    have KW := kr
                    have Kw : Ex w wr := ex_trans (by (try show Ex _ _); with_reducible repeat (first | exact ex_refl _ | assumption | refine ex_drewL ?_ | refine ex_appR ?_ _ | refine ex_wx ?_ _ | refine ex_drew ?_ | refine ex_alloc ?_ _)) kr
                    by_cases hlt : k < m + 1
                    · obtain ⟨g2, off2, he2, t1, _, t2, t3⟩ := (HPS.out.ex Kw).row (i := k) (by have := HM.out; omega)
                      cases he2
                      have HB := heap_alloc_new (w.alloc (.cells (rowB 32 (dF x)) 46)) (.cells #[.string lo, .string hi, .bool op] 24)
                      have HB1 : wr.heap[w.heap.size + 1]? = some (.cells #[.string lo, .string hi, .bool op] 24 (0, 0)) := by
                        have := ex_block (ex_trans (w := (w.alloc (.cells (rowB 32 (dF x)) 46)).alloc (.cells #[.string lo, .string hi, .bool op] 24)) (by (try show Ex _ _); with_reducible repeat (first | exact ex_refl _ | assumption | refine ex_drewL ?_ | refine ex_appR ?_ _ | refine ex_wx ?_ _ | refine ex_drew ?_ | refine ex_alloc ?_ _)) kr) HB
                        have h3 : (w.alloc (.cells (rowB 32 (dF x)) 46)).heap.size = w.heap.size + 1 := by simp [go_sem]
                        rwa [h3] at this
                      have s0 := (block_cell (o := 0) HB1 rfl).1
                      have s1 := (block_cell (o := 1) HB1 rfl).1
                      have s2 := (block_cell (o := 2) HB1 rfl).1
                      have s3 : w.heap.size + 1 < wr.heap.size := (Array.getElem?_eq_some_iff.1 HB1).1
                      have HF := Lib.hid (filter_snoc (fun p => inP ⟨lo, hi, op⟩ p.1) ps k (by have := HM.out; omega))
                      have HIK := Lib.hid (fun w' => in_any ⟨lo, hi, op⟩ (prAt ps k).1 w')
                      have HLN : Hid (((ps.take k).filter fun p => inP ⟨lo, hi, op⟩ p.1).length ≤ 300) := Lib.hid (by
                        have h1 := List.length_filter_le (fun p : Pr => inP ⟨lo, hi, op⟩ p.1) (ps.take k)
                        have h2 : (ps.take k).length ≤ k := List.length_take_le _ _
                        omega)
                      have hsl := Lib.hid (fun (w0 : World) w' (gg : Nat) (k' : Ex (w0.alloc (.cells (PC (prAt ps k)) 42)) w') (hgg : gg = w0.heap.size) => slp_one (prAt ps k) k' hgg)
                      unfold RC at HIK
                      unfold PC at hsl
                      simp only at HIK
                      clear HB HB1 kr
                      generalize prAt ps k = pk at t2 t3 HF HIK hsl
                      obtain ⟨sk, tk⟩ := pk
                      simp only at t2 t3 HF HIK hsl
                      cases hin : inP ⟨lo, hi, op⟩ sk with
                      | false =>
                        rw [hin] at HIK HF
                        simp only [Bool.false_eq_true, if_false, List.append_nil] at HF
                        clear hin hsl
                        go_wp2_with (go_at_call 17; (with_reducible refine (HIK.out _).mono ?_); rintro e w2 ⟨rfl, X3, rfl⟩)
                        refine ⟨⟨k + 1, by omega, by go_num, Lib.hid (by rw [HF.out]; exact hown.out.ex (by (try show Ex _ _); with_reducible repeat (first | exact ex_refl _ | assumption | refine ex_drewL ?_ | refine ex_appR ?_ _ | refine ex_wx ?_ _ | refine ex_drew ?_ | refine ex_alloc ?_ _))), (by (try show Ex _ _); with_reducible repeat (first | exact ex_refl _ | assumption | refine ex_drewL ?_ | refine ex_appR ?_ _ | refine ex_wx ?_ _ | refine ex_drew ?_ | refine ex_alloc ?_ _))⟩, by simp [intOf]; omega⟩
                      | true =>
                        rw [hin] at HIK HF
                        simp only [if_true] at HF
                        clear hin
                        go_wp2_with (first | (go_at_call 17; (with_reducible refine (HIK.out _).mono ?_); rintro e w2 ⟨rfl, X3, rfl⟩) | (at_builtin; refine wpAppP (r := [(sk, tk)]) _ _ rfl rfl (hown.out.ex (by (try show Ex _ _); with_reducible repeat (first | exact ex_refl _ | assumption | refine ex_drewL ?_ | refine ex_appR ?_ _ | refine ex_wx ?_ _ | refine ex_drew ?_ | refine ex_alloc ?_ _))) rfl rfl rfl (hsl.out _ _ _ (by (try show Ex _ _); with_reducible repeat (first | exact ex_refl _ | assumption | refine ex_drewL ?_ | refine ex_appR ?_ _ | refine ex_wx ?_ _ | refine ex_drew ?_ | refine ex_alloc ?_ _)) (by simp [go_sem])) (by have := HLN.out; simp; omega) (by have := ex_size KW; simp [go_sem] at this ⊢; omega) (fun v1 w1 hown1 hbe => ?_)))
                        refine ⟨⟨k + 1, by omega, by go_num, Lib.hid (by rw [HF.out]; exact hown1), ex_of_below ((ex_below (by (try show Ex _ _); with_reducible repeat (first | exact ex_refl _ | assumption | refine ex_drewL ?_ | refine ex_appR ?_ _ | refine ex_wx ?_ _ | refine ex_drew ?_ | refine ex_alloc ?_ _))).trans hbe)⟩, by simp [intOf]; omega⟩
                    · obtain rfl : k = m + 1 := by omega
                      have hfin : ps.take (m + 1) = ps := List.take_of_length_le (by have := HM.out; omega)
                      go_wp2
                      go_ret2
                      exact ⟨_, rfl, by have h := owns_le hown.out (Z' := w.heap.size) (by simp [go_sem] <;> omega); rw [hfin] at h; exact h, (by (try show Ex _ _); with_reducible repeat (first | exact ex_refl _ | assumption | refine ex_drewL ?_ | refine ex_appR ?_ _ | refine ex_wx ?_ _ | refine ex_drew ?_ | refine ex_alloc ?_ _))⟩
                · rw [if_pos (by simp)]
                  simp only [Option.getD_none, errV, Option.isSome_none, Bool.false_eq_true, if_false]
                  go_enter Tryd.func20, Tryd.ntmps20
                  go_wp2_with (go_at_call 66; (with_reducible refine (HT.out _ (by (try show Ex _ _); with_reducible repeat (first | exact ex_refl _ | assumption | refine ex_drewL ?_ | refine ex_appR ?_ _ | refine ex_wx ?_ _ | refine ex_drew ?_ | refine ex_alloc ?_ _))).mono ?_); rintro e w2 ⟨rfl, X, rfl⟩)
                  refine wp_region_seq [(0, true), (1, true), (2, true), (3, true), (4, true), (5, true), (6, true), (7, true), (8, true), (9, true), (10, true), (11, true), (12, true), (13, true), (14, true), (15, true)] (by kernel_rfl) (by kernel_rfl) (fun _ _ d _ _ h => by cases d <;> exact h) ?_
                  simp only [List.map_cons, List.map_nil, nth]
                  repeat (first | ((with_reducible refine wpSeq_look ?_); go_big_quiet_step (fail); (with_reducible refine wpQuiet_nil ?_)) | ((with_reducible refine wpSeq_effF ?_ ?_); (focus rfl); go_simp) | ((with_reducible refine wpSeq_eff ?_ ?_); (focus rfl); (try dsimp only); go_wp2_with (fail); refine mixQ_mk (by (try show Ex _ _); with_reducible repeat (first | exact ex_refl _ | assumption | refine ex_drewL ?_ | refine ex_appR ?_ _ | refine ex_wx ?_ _ | refine ex_drew ?_ | refine ex_alloc ?_ _)) ?_))
                  refine wpSeq_nil ?_
                  go_wp2_with (go_at_call 17; (with_reducible refine (HIN.out _).mono ?_); rintro e w2 ⟨rfl, X3, rfl⟩)
                  go_ret2
                  exact ⟨_, rfl, ownp_nil _ _, (by (try show Ex _ _); with_reducible repeat (first | exact ex_refl _ | assumption | refine ex_drewL ?_ | refine ex_appR ?_ _ | refine ex_wx ?_ _ | refine ex_drew ?_ | refine ex_alloc ?_ _))⟩
              · rw [if_pos (by simp)]
                simp only [Option.getD_none, errV, Option.isSome_none, Bool.false_eq_true, if_false]
                go_enter Tryd.func20, Tryd.ntmps20
                go_wp2_with (go_at_call 66; (with_reducible refine (HT.out _ (by (try show Ex _ _); with_reducible repeat (first | exact ex_refl _ | assumption | refine ex_drewL ?_ | refine ex_appR ?_ _ | refine ex_wx ?_ _ | refine ex_drew ?_ | refine ex_alloc ?_ _))).mono ?_); rintro e w2 ⟨rfl, X, rfl⟩)
                refine wp_region_seq [(0, true), (1, true), (2, true), (3, true), (4, true), (5, true), (6, true), (7, true), (8, true), (9, true), (10, true), (11, true), (12, true), (13, true), (14, true), (15, true)] (by kernel_rfl) (by kernel_rfl) (fun _ _ d _ _ h => by cases d <;> exact h) ?_
                simp only [List.map_cons, List.map_nil, nth]
                repeat (first | ((with_reducible refine wpSeq_look ?_); go_big_quiet_step (fail); (with_reducible refine wpQuiet_nil ?_)) | ((with_reducible refine wpSeq_effF ?_ ?_); (focus rfl); go_simp) | ((with_reducible refine wpSeq_eff ?_ ?_); (focus rfl); (try dsimp only); go_wp2_with (fail); refine mixQ_mk (by (try show Ex _ _); with_reducible repeat (first | exact ex_refl _ | assumption | refine ex_drewL ?_ | refine ex_appR ?_ _ | refine ex_wx ?_ _ | refine ex_drew ?_ | refine ex_alloc ?_ _)) ?_))
                refine wpSeq_nil ?_
                go_wp2_with (go_at_call 17; (with_reducible refine (HIN.out _).mono ?_); rintro e w2 ⟨rfl, X3, rfl⟩)
                go_ret2
                exact ⟨_, rfl, ownp_nil _ _, (by (try show Ex _ _); with_reducible repeat (first | exact ex_refl _ | assumption | refine ex_drewL ?_ | refine ex_appR ?_ _ | refine ex_wx ?_ _ | refine ex_drew ?_ | refine ex_alloc ?_ _))⟩
            · have w5 : decide (F + (m + 1) < T) = false := decide_eq_false h5
              have w6 : decide ((F : Int) + (m + 1 : Nat) < T) = false := decide_eq_false (by omega)
              have w7 : decide ((F : Int) + ((m : Int) + 1) < T) = false := decide_eq_false (by omega)
              rw [w6]
              clear h5
              cases b3
              · cases b4
                · rw [if_neg (by simp)]
                  simp only [Option.getD_some, errV, Option.isSome_some, if_true]
                  go_enter Tryd.func20, Tryd.ntmps20
                  go_wp2_with (go_at_call 66; (with_reducible refine (HT.out _ (by (try show Ex _ _); with_reducible repeat (first | exact ex_refl _ | assumption | refine ex_drewL ?_ | refine ex_appR ?_ _ | refine ex_wx ?_ _ | refine ex_drew ?_ | refine ex_alloc ?_ _))).mono ?_); rintro e w2 ⟨rfl, X, rfl⟩)
                  refine wp_region_seq [(0, true), (1, true), (2, true), (3, true), (4, true), (5, true), (6, true), (7, true), (8, true), (9, true), (10, true), (11, true), (12, true), (13, true), (14, true), (15, true)] (by kernel_rfl) (by kernel_rfl) (fun _ _ d _ _ h => by cases d <;> exact h) ?_
                  simp only [List.map_cons, List.map_nil, nth]
                  repeat (first | ((with_reducible refine wpSeq_look ?_); go_big_quiet_step (fail); (with_reducible refine wpQuiet_nil ?_)) | ((with_reducible refine wpSeq_effF ?_ ?_); (focus rfl); go_simp) | ((with_reducible refine wpSeq_eff ?_ ?_); (focus rfl); (try dsimp only); go_wp2_with (fail); refine mixQ_mk (by (try show Ex _ _); with_reducible repeat (first | exact ex_refl _ | assumption | refine ex_drewL ?_ | refine ex_appR ?_ _ | refine ex_wx ?_ _ | refine ex_drew ?_ | refine ex_alloc ?_ _)) ?_))
                  refine wpSeq_nil ?_
                  go_wp2_with (go_at_call 17; (with_reducible refine (HIN.out _).mono ?_); rintro e w2 ⟨rfl, X3, rfl⟩)
                  go_loopw [12, 78] (fun v i wr => ∃ k : Nat, k ≤ m + 1 ∧ i = I k ∧ Hid (OwnP wr (wV w x lo hi op T F (some ⟨g, off, none⟩) qa m L2 pc qc).heap.size v ((ps.take k).filter fun p => inP ⟨lo, hi, op⟩ p.1)) ∧ Ex (wV w x lo hi op T F (some ⟨g, off, none⟩) qa m L2 pc qc) wr) (fun _ i _ => m + 1 - (intOf i).toNat)
                  case atStart => exact ⟨0, by omega, rfl, Lib.hid (ownp_nil _ _), (by (try show Ex _ _); with_reducible repeat (first | exact ex_refl _ | assumption | refine ex_drewL ?_ | refine ex_appR ?_ _ | refine ex_wx ?_ _ | refine ex_drew ?_ | refine ex_alloc ?_ _))⟩
                  case round =>
                    obtain ⟨k, hk, rfl, hown, kr⟩ := hrel
                    have KW := kr
                    have Kw : Ex w wr := ex_trans (by (try show Ex _ _); with_reducible repeat (first | exact ex_refl _ | assumption | refine ex_drewL ?_ | refine ex_appR ?_ _ | refine ex_wx ?_ _ | refine ex_drew ?_ | refine ex_alloc ?_ _)) kr
                    by_cases hlt : k < m + 1
                    · obtain ⟨g2, off2, he2, t1, _, t2, t3⟩ := (HPS.out.ex Kw).row (i := k) (by have := HM.out; omega)
                      cases he2
                      have HB := heap_alloc_new (w.alloc (.cells (rowB 32 (dF x)) 46)) (.cells #[.string lo, .string hi, .bool op] 24)
                      have HB1 : wr.heap[w.heap.size + 1]? = some (.cells #[.string lo, .string hi, .bool op] 24 (0, 0)) := by
                        have := ex_block (ex_trans (w := (w.alloc (.cells (rowB 32 (dF x)) 46)).alloc (.cells #[.string lo, .string hi, .bool op] 24)) (by (try show Ex _ _); with_reducible repeat (first | exact ex_refl _ | assumption | refine ex_drewL ?_ | refine ex_appR ?_ _ | refine ex_wx ?_ _ | refine ex_drew ?_ | refine ex_alloc ?_ _)) kr) HB
                        have h3 : (w.alloc (.cells (rowB 32 (dF x)) 46)).heap.size = w.heap.size + 1 := by simp [go_sem]
                        rwa [h3] at this
                      have s0 := (block_cell (o := 0) HB1 rfl).1
                      have s1 := (block_cell (o := 1) HB1 rfl).1
                      have s2 := (block_cell (o := 2) HB1 rfl).1
                      have s3 : w.heap.size + 1 < wr.heap.size := (Array.getElem?_eq_some_iff.1 HB1).1
                      have HF := Lib.hid (filter_snoc (fun p => inP ⟨lo, hi, op⟩ p.1) ps k (by have := HM.out; omega))
                      have HIK := Lib.hid (fun w' => in_any ⟨lo, hi, op⟩ (prAt ps k).1 w')
                      have HLN : Hid (((ps.take k).filter fun p => inP ⟨lo, hi, op⟩ p.1).length ≤ 300) := Lib.hid (by
                        have h1 := List.length_filter_le (fun p : Pr => inP ⟨lo, hi, op⟩ p.1) (ps.take k)
                        have h2 : (ps.take k).length ≤ k := List.length_take_le _ _
                        omega)
                      have hsl := Lib.hid (fun (w0 : World) w' (gg : Nat) (k' : Ex (w0.alloc (.cells (PC (prAt ps k)) 42)) w') (hgg : gg = w0.heap.size) => slp_one (prAt ps k) k' hgg)
                      unfold RC at HIK
                      unfold PC at hsl
                      simp only at HIK
                      clear HB HB1 kr
                      generalize prAt ps k = pk at t2 t3 HF HIK hsl
                      obtain ⟨sk, tk⟩ := pk
                      simp only at t2 t3 HF HIK hsl
                      cases hin : inP ⟨lo, hi, op⟩ sk with
                      | false =>
                        rw [hin] at HIK HF
                        simp only [Bool.false_eq_true, if_false, List.append_nil] at HF
                        clear hin hsl
                        go_wp2_with (go_at_call 17; (with_reducible refine (HIK.out _).mono ?_); rintro e w2 ⟨rfl, X3, rfl⟩)
                        refine ⟨⟨k + 1, by omega, by go_num, Lib.hid (by rw [HF.out]; exact hown.out.ex (by (try show Ex _ _); with_reducible repeat (first | exact ex_refl _ | assumption | refine ex_drewL ?_ | refine ex_appR ?_ _ | refine ex_wx ?_ _ | refine ex_drew ?_ | refine ex_alloc ?_ _))), (by (try show Ex _ _); with_reducible repeat (first | exact ex_refl _ | assumption | refine ex_drewL ?_ | refine ex_appR ?_ _ | refine ex_wx ?_ _ | refine ex_drew ?_ | refine ex_alloc ?_ _))⟩, by simp [intOf]; omega⟩
                      | true =>
                        rw [hin] at HIK HF
                        simp only [if_true] at HF
                        clear hin
                        go_wp2_with (first | (go_at_call 17; (with_reducible refine (HIK.out _).mono ?_); rintro e w2 ⟨rfl, X3, rfl⟩) | (at_builtin; refine wpAppP (r := [(sk, tk)]) _ _ rfl rfl (hown.out.ex (by (try show Ex _ _); with_reducible repeat (first | exact ex_refl _ | assumption | refine ex_drewL ?_ | refine ex_appR ?_ _ | refine ex_wx ?_ _ | refine ex_drew ?_ | refine ex_alloc ?_ _))) rfl rfl rfl (hsl.out _ _ _ (by (try show Ex _ _); with_reducible repeat (first | exact ex_refl _ | assumption | refine ex_drewL ?_ | refine ex_appR ?_ _ | refine ex_wx ?_ _ | refine ex_drew ?_ | refine ex_alloc ?_ _)) (by simp [go_sem])) (by have := HLN.out; simp; omega) (by have := ex_size KW; simp [go_sem] at this ⊢; omega) (fun v1 w1 hown1 hbe => ?_)))
                        refine ⟨⟨k + 1, by omega, by go_num, Lib.hid (by rw [HF.out]; exact hown1), ex_of_below ((ex_below (by (try show Ex _ _); with_reducible repeat (first | exact ex_refl _ | assumption | refine ex_drewL ?_ | refine ex_appR ?_ _ | refine ex_wx ?_ _ | refine ex_drew ?_ | refine ex_alloc ?_ _))).trans hbe)⟩, by simp [intOf]; omega⟩
                    · obtain rfl : k = m + 1 := by omega
                      have hfin : ps.take (m + 1) = ps := List.take_of_length_le (by have := HM.out; omega)
                      go_wp2
                      go_ret2
                      exact ⟨_, rfl, by have h := owns_le hown.out (Z' := w.heap.size) (by simp [go_sem] <;> omega); rw [hfin] at h; exact h, (by (try show Ex _ _); with_reducible repeat (first | exact ex_refl _ | assumption | refine ex_drewL ?_ | refine ex_appR ?_ _ | refine ex_wx ?_ _ | refine ex_drew ?_ | refine ex_alloc ?_ _))⟩
                · rw [if_neg (by simp)]
                  simp only [Option.getD_some, errV, Option.isSome_some, if_true]
                  go_enter Tryd.func20, Tryd.ntmps20
                  go_wp2_with (go_at_call 66; (with_reducible refine (HT.out _ (by (try show Ex _ _); with_reducible repeat (first | exact ex_refl _ | assumption | refine ex_drewL ?_ | refine ex_appR ?_ _ | refine ex_wx ?_ _ | refine ex_drew ?_ | refine ex_alloc ?_ _))).mono ?_); rintro e w2 ⟨rfl, X, rfl⟩)
                  refine wp_region_seq [(0, true), (1, true), (2, true), (3, true), (4, true), (5, true), (6, true), (7, true), (8, true), (9, true), (10, true), (11, true), (12, true), (13, true), (14, true), (15, true)] (by kernel_rfl) (by kernel_rfl) (fun _ _ d _ _ h => by cases d <;> exact h) ?_
                  simp only [List.map_cons, List.map_nil, nth]
                  repeat (first | ((with_reducible refine wpSeq_look ?_); go_big_quiet_step (fail); (with_reducible refine wpQuiet_nil ?_)) | ((with_reducible refine wpSeq_effF ?_ ?_); (focus rfl); go_simp) | ((with_reducible refine wpSeq_eff ?_ ?_); (focus rfl); (try dsimp only); go_wp2_with (fail); refine mixQ_mk (by (try show Ex _ _); with_reducible repeat (first | exact ex_refl _ | assumption | refine ex_drewL ?_ | refine ex_appR ?_ _ | refine ex_wx ?_ _ | refine ex_drew ?_ | refine ex_alloc ?_ _)) ?_))
                  refine wpSeq_nil ?_
                  go_wp2_with (go_at_call 17; (with_reducible refine (HIN.out _).mono ?_); rintro e w2 ⟨rfl, X3, rfl⟩)
                  go_loopw [12, 78] (fun v i wr => ∃ k : Nat, k ≤ m + 1 ∧ i = I k ∧ Hid (OwnP wr (wV w x lo hi op T F (some ⟨g, off, none⟩) qa m L2 pc qc).heap.size v ((ps.take k).filter fun p => inP ⟨lo, hi, op⟩ p.1)) ∧ Ex (wV w x lo hi op T F (some ⟨g, off, none⟩) qa m L2 pc qc) wr) (fun _ i _ => m + 1 - (intOf i).toNat)
                  case atStart => exact ⟨0, by omega, rfl, Lib.hid (ownp_nil _ _), (by (try show Ex _ _); with_reducible repeat (first | exact ex_refl _ | assumption | refine ex_drewL ?_ | refine ex_appR ?_ _ | refine ex_wx ?_ _ | refine ex_drew ?_ | refine ex_alloc ?_ _))⟩
                  case round =>
                    obtain ⟨k, hk, rfl, hown, kr⟩ := hrel
                    have KW := kr
                    have Kw : Ex w wr := ex_trans (by (try show Ex _ _); with_reducible repeat (first | exact ex_refl _ | assumption | refine ex_drewL ?_ | refine ex_appR ?_ _ | refine ex_wx ?_ _ | refine ex_drew ?_ | refine ex_alloc ?_ _)) kr
                    by_cases hlt : k < m + 1
                    · obtain ⟨g2, off2, he2, t1, _, t2, t3⟩ := (HPS.out.ex Kw).row (i := k) (by have := HM.out; omega)
                      cases he2
                      have HB := heap_alloc_new (w.alloc (.cells (rowB 32 (dF x)) 46)) (.cells #[.string lo, .string hi, .bool op] 24)
                      have HB1 : wr.heap[w.heap.size + 1]? = some (.cells #[.string lo, .string hi, .bool op] 24 (0, 0)) := by
                        have := ex_block (ex_trans (w := (w.alloc (.cells (rowB 32 (dF x)) 46)).alloc (.cells #[.string lo, .string hi, .bool op] 24)) (by (try show Ex _ _); with_reducible repeat (first | exact ex_refl _ | assumption | refine ex_drewL ?_ | refine ex_appR ?_ _ | refine ex_wx ?_ _ | refine ex_drew ?_ | refine ex_alloc ?_ _)) kr) HB
                        have h3 : (w.alloc (.cells (rowB 32 (dF x)) 46)).heap.size = w.heap.size + 1 := by simp [go_sem]
                        rwa [h3] at this
                      have s0 := (block_cell (o := 0) HB1 rfl).1
                      have s1 := (block_cell (o := 1) HB1 rfl).1
                      have s2 := (block_cell (o := 2) HB1 rfl).1
                      have s3 : w.heap.size + 1 < wr.heap.size := (Array.getElem?_eq_some_iff.1 HB1).1
                      have HF := Lib.hid (filter_snoc (fun p => inP ⟨lo, hi, op⟩ p.1) ps k (by have := HM.out; omega))
                      have HIK := Lib.hid (fun w' => in_any ⟨lo, hi, op⟩ (prAt ps k).1 w')
                      have HLN : Hid (((ps.take k).filter fun p => inP ⟨lo, hi, op⟩ p.1).length ≤ 300) := Lib.hid (by
                        have h1 := List.length_filter_le (fun p : Pr => inP ⟨lo, hi, op⟩ p.1) (ps.take k)
                        have h2 : (ps.take k).length ≤ k := List.length_take_le _ _
                        omega)
                      have hsl := Lib.hid (fun (w0 : World) w' (gg : Nat) (k' : Ex (w0.alloc (.cells (PC (prAt ps k)) 42)) w') (hgg : gg = w0.heap.size) => slp_one (prAt ps k) k' hgg)
                      unfold RC at HIK
                      unfold PC at hsl
                      simp only at HIK
                      clear HB HB1 kr
                      generalize prAt ps k = pk at t2 t3 HF HIK hsl
                      obtain ⟨sk, tk⟩ := pk
                      simp only at t2 t3 HF HIK hsl
                      cases hin : inP ⟨lo, hi, op⟩ sk with
                      | false =>
                        rw [hin] at HIK HF
                        simp only [Bool.false_eq_true, if_false, List.append_nil] at HF
                        clear hin hsl
                        go_wp2_with (go_at_call 17; (with_reducible refine (HIK.out _).mono ?_); rintro e w2 ⟨rfl, X3, rfl⟩)
                        refine ⟨⟨k + 1, by omega, by go_num, Lib.hid (by rw [HF.out]; exact hown.out.ex (by (try show Ex _ _); with_reducible repeat (first | exact ex_refl _ | assumption | refine ex_drewL ?_ | refine ex_appR ?_ _ | refine ex_wx ?_ _ | refine ex_drew ?_ | refine ex_alloc ?_ _))), (by (try show Ex _ _); with_reducible repeat (first | exact ex_refl _ | assumption | refine ex_drewL ?_ | refine ex_appR ?_ _ | refine ex_wx ?_ _ | refine ex_drew ?_ | refine ex_alloc ?_ _))⟩, by simp [intOf]; omega⟩
                      | true =>
                        rw [hin] at HIK HF
                        simp only [if_true] at HF
                        clear hin
                        go_wp2_with (first | (go_at_call 17; (with_reducible refine (HIK.out _).mono ?_); rintro e w2 ⟨rfl, X3, rfl⟩) | (at_builtin; refine wpAppP (r := [(sk, tk)]) _ _ rfl rfl (hown.out.ex (by (try show Ex _ _); with_reducible repeat (first | exact ex_refl _ | assumption | refine ex_drewL ?_ | refine ex_appR ?_ _ | refine ex_wx ?_ _ | refine ex_drew ?_ | refine ex_alloc ?_ _))) rfl rfl rfl (hsl.out _ _ _ (by (try show Ex _ _); with_reducible repeat (first | exact ex_refl _ | assumption | refine ex_drewL ?_ | refine ex_appR ?_ _ | refine ex_wx ?_ _ | refine ex_drew ?_ | refine ex_alloc ?_ _)) (by simp [go_sem])) (by have := HLN.out; simp; omega) (by have := ex_size KW; simp [go_sem] at this ⊢; omega) (fun v1 w1 hown1 hbe => ?_)))
                        refine ⟨⟨k + 1, by omega, by go_num, Lib.hid (by rw [HF.out]; exact hown1), ex_of_below ((ex_below (by (try show Ex _ _); with_reducible repeat (first | exact ex_refl _ | assumption | refine ex_drewL ?_ | refine ex_appR ?_ _ | refine ex_wx ?_ _ | refine ex_drew ?_ | refine ex_alloc ?_ _))).trans hbe)⟩, by simp [intOf]; omega⟩
                    · obtain rfl : k = m + 1 := by omega
                      have hfin : ps.take (m + 1) = ps := List.take_of_length_le (by have := HM.out; omega)
                      go_wp2
                      go_ret2
                      exact ⟨_, rfl, by have h := owns_le hown.out (Z' := w.heap.size) (by simp [go_sem] <;> omega); rw [hfin] at h; exact h, (by (try show Ex _ _); with_reducible repeat (first | exact ex_refl _ | assumption | refine ex_drewL ?_ | refine ex_appR ?_ _ | refine ex_wx ?_ _ | refine ex_drew ?_ | refine ex_alloc ?_ _))⟩
              · rw [if_neg (by simp)]
                simp only [Option.getD_some, errV, Option.isSome_some, if_true]
                go_enter Tryd.func20, Tryd.ntmps20
                go_wp2_with (go_at_call 66; (with_reducible refine (HT.out _ (by (try show Ex _ _); with_reducible repeat (first | exact ex_refl _ | assumption | refine ex_drewL ?_ | refine ex_appR ?_ _ | refine ex_wx ?_ _ | refine ex_drew ?_ | refine ex_alloc ?_ _))).mono ?_); rintro e w2 ⟨rfl, X, rfl⟩)
                refine wp_region_seq [(0, true), (1, true), (2, true), (3, true), (4, true), (5, true), (6, true), (7, true), (8, true), (9, true), (10, true), (11, true), (12, true), (13, true), (14, true), (15, true)] (by kernel_rfl) (by kernel_rfl) (fun _ _ d _ _ h => by cases d <;> exact h) ?_
                simp only [List.map_cons, List.map_nil, nth]
                repeat (first | ((with_reducible refine wpSeq_look ?_); go_big_quiet_step (fail); (with_reducible refine wpQuiet_nil ?_)) | ((with_reducible refine wpSeq_effF ?_ ?_); (focus rfl); go_simp) | ((with_reducible refine wpSeq_eff ?_ ?_); (focus rfl); (try dsimp only); go_wp2_with (fail); refine mixQ_mk (by (try show Ex _ _); with_reducible repeat (first | exact ex_refl _ | assumption | refine ex_drewL ?_ | refine ex_appR ?_ _ | refine ex_wx ?_ _ | refine ex_drew ?_ | refine ex_alloc ?_ _)) ?_))
                refine wpSeq_nil ?_
                go_wp2_with (go_at_call 17; (with_reducible refine (HIN.out _).mono ?_); rintro e w2 ⟨rfl, X3, rfl⟩)
                go_loopw [12, 78] (fun v i wr => ∃ k : Nat, k ≤ m + 1 ∧ i = I k ∧ Hid (OwnP wr (wV w x lo hi op T F (some ⟨g, off, none⟩) qa m L2 pc qc).heap.size v ((ps.take k).filter fun p => inP ⟨lo, hi, op⟩ p.1)) ∧ Ex (wV w x lo hi op T F (some ⟨g, off, none⟩) qa m L2 pc qc) wr) (fun _ i _ => m + 1 - (intOf i).toNat)
                case atStart => exact ⟨0, by omega, rfl, Lib.hid (ownp_nil _ _), (by (try show Ex _ _); with_reducible repeat (first | exact ex_refl _ | assumption | refine ex_drewL ?_ | refine ex_appR ?_ _ | refine ex_wx ?_ _ | refine ex_drew ?_ | refine ex_alloc ?_ _))⟩
                case round =>
                  obtain ⟨k, hk, rfl, hown, kr⟩ := hrel
                  have KW := kr
                  have Kw : Ex w wr := ex_trans (by (try show Ex _ _); with_reducible repeat (first | exact ex_refl _ | assumption | refine ex_drewL ?_ | refine ex_appR ?_ _ | refine ex_wx ?_ _ | refine ex_drew ?_ | refine ex_alloc ?_ _)) kr
                  by_cases hlt : k < m + 1
                  · obtain ⟨g2, off2, he2, t1, _, t2, t3⟩ := (HPS.out.ex Kw).row (i := k) (by have := HM.out; omega)
                    cases he2
                    have HB := heap_alloc_new (w.alloc (.cells (rowB 32 (dF x)) 46)) (.cells #[.string lo, .string hi, .bool op] 24)
                    have HB1 : wr.heap[w.heap.size + 1]? = some (.cells #[.string lo, .string hi, .bool op] 24 (0, 0)) := by
                      have := ex_block (ex_trans (w := (w.alloc (.cells (rowB 32 (dF x)) 46)).alloc (.cells #[.string lo, .string hi, .bool op] 24)) (by (try show Ex _ _); with_reducible repeat (first | exact ex_refl _ | assumption | refine ex_drewL ?_ | refine ex_appR ?_ _ | refine ex_wx ?_ _ | refine ex_drew ?_ | refine ex_alloc ?_ _)) kr) HB
                      have h3 : (w.alloc (.cells (rowB 32 (dF x)) 46)).heap.size = w.heap.size + 1 := by simp [go_sem]
                      rwa [h3] at this
                    have s0 := (block_cell (o := 0) HB1 rfl).1
                    have s1 := (block_cell (o := 1) HB1 rfl).1
                    have s2 := (block_cell (o := 2) HB1 rfl).1
                    have s3 : w.heap.size + 1 < wr.heap.size := (Array.getElem?_eq_some_iff.1 HB1).1
                    have HF := Lib.hid (filter_snoc (fun p => inP ⟨lo, hi, op⟩ p.1) ps k (by have := HM.out; omega))
                    have HIK := Lib.hid (fun w' => in_any ⟨lo, hi, op⟩ (prAt ps k).1 w')
                    have HLN : Hid (((ps.take k).filter fun p => inP ⟨lo, hi, op⟩ p.1).length ≤ 300) := Lib.hid (by
                      have h1 := List.length_filter_le (fun p : Pr => inP ⟨lo, hi, op⟩ p.1) (ps.take k)
                      have h2 : (ps.take k).length ≤ k := List.length_take_le _ _
                      omega)
                    have hsl := Lib.hid (fun (w0 : World) w' (gg : Nat) (k' : Ex (w0.alloc (.cells (PC (prAt ps k)) 42)) w') (hgg : gg = w0.heap.size) => slp_one (prAt ps k) k' hgg)
                    unfold RC at HIK
                    unfold PC at hsl
                    simp only at HIK
                    clear HB HB1 kr
                    generalize prAt ps k = pk at t2 t3 HF HIK hsl
                    obtain ⟨sk, tk⟩ := pk
                    simp only at t2 t3 HF HIK hsl
                    cases hin : inP ⟨lo, hi, op⟩ sk with
                    | false =>
                      rw [hin] at HIK HF
                      simp only [Bool.false_eq_true, if_false, List.append_nil] at HF
                      clear hin hsl
                      go_wp2_with (go_at_call 17; (with_reducible refine (HIK.out _).mono ?_); rintro e w2 ⟨rfl, X3, rfl⟩)
                      refine ⟨⟨k + 1, by omega, by go_num, Lib.hid (by rw [HF.out]; exact hown.out.ex (by (try show Ex _ _); with_reducible repeat (first | exact ex_refl _ | assumption | refine ex_drewL ?_ | refine ex_appR ?_ _ | refine ex_wx ?_ _ | refine ex_drew ?_ | refine ex_alloc ?_ _))), (by (try show Ex _ _); with_reducible repeat (first | exact ex_refl _ | assumption | refine ex_drewL ?_ | refine ex_appR ?_ _ | refine ex_wx ?_ _ | refine ex_drew ?_ | refine ex_alloc ?_ _))⟩, by simp [intOf]; omega⟩
                    | true =>
                      rw [hin] at HIK HF
                      simp only [if_true] at HF
                      clear hin
                      go_wp2_with (first | (go_at_call 17; (with_reducible refine (HIK.out _).mono ?_); rintro e w2 ⟨rfl, X3, rfl⟩) | (at_builtin; refine wpAppP (r := [(sk, tk)]) _ _ rfl rfl (hown.out.ex (by (try show Ex _ _); with_reducible repeat (first | exact ex_refl _ | assumption | refine ex_drewL ?_ | refine ex_appR ?_ _ | refine ex_wx ?_ _ | refine ex_drew ?_ | refine ex_alloc ?_ _))) rfl rfl rfl (hsl.out _ _ _ (by (try show Ex _ _); with_reducible repeat (first | exact ex_refl _ | assumption | refine ex_drewL ?_ | refine ex_appR ?_ _ | refine ex_wx ?_ _ | refine ex_drew ?_ | refine ex_alloc ?_ _)) (by simp [go_sem])) (by have := HLN.out; simp; omega) (by have := ex_size KW; simp [go_sem] at this ⊢; omega) (fun v1 w1 hown1 hbe => ?_)))
                      refine ⟨⟨k + 1, by omega, by go_num, Lib.hid (by rw [HF.out]; exact hown1), ex_of_below ((ex_below (by (try show Ex _ _); with_reducible repeat (first | exact ex_refl _ | assumption | refine ex_drewL ?_ | refine ex_appR ?_ _ | refine ex_wx ?_ _ | refine ex_drew ?_ | refine ex_alloc ?_ _))).trans hbe)⟩, by simp [intOf]; omega⟩
                  · obtain rfl : k = m + 1 := by omega
                    have hfin : ps.take (m + 1) = ps := List.take_of_length_le (by have := HM.out; omega)
                    go_wp2
                    go_ret2
                    exact ⟨_, rfl, by have h := owns_le hown.out (Z' := w.heap.size) (by simp [go_sem] <;> omega); rw [hfin] at h; exact h, (by (try show Ex _ _); with_reducible repeat (first | exact ex_refl _ | assumption | refine ex_drewL ?_ | refine ex_appR ?_ _ | refine ex_wx ?_ _ | refine ex_drew ?_ | refine ex_alloc ?_ _))⟩
    · have hx : verS root ⟨lo, hi, op⟩ t f ps qs = none := by unfold verS; rw [ho, if_neg (by simpa using hxr)]
      rw [hx]
      rw [decide_eq_false hxr] at hE
      simp only [Option.getD_none, errV, Option.isSome_none, Bool.false_eq_true, if_false]
      generalize ps.length = L at *
      generalize qs.length = L2 at *
      unfold RC
      clear hx ho hps hqs hok hxr
      go_enter Tryd.func20, Tryd.ntmps20
      go_wp2_with (go_at_call 66; (with_reducible refine (HT.out _ (by (try show Ex _ _); with_reducible repeat (first | exact ex_refl _ | assumption | refine ex_drewL ?_ | refine ex_appR ?_ _ | refine ex_wx ?_ _ | refine ex_drew ?_ | refine ex_alloc ?_ _))).mono ?_); rintro e w2 ⟨rfl, X, rfl⟩)
      go_ret2
      exact ⟨_, rfl, ownp_nil _ _, (by (try show Ex _ _); with_reducible repeat (first | exact ex_refl _ | assumption | refine ex_drewL ?_ | refine ex_appR ?_ _ | refine ex_wx ?_ _ | refine ex_drew ?_ | refine ex_alloc ?_ _))⟩
end Go.Proofs.YtcdocklbpfdmeaaDoor
