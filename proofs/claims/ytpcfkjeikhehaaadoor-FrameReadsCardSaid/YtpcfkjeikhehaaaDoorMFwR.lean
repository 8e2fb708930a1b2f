import Derived.Test.YtpcfkjeikhehaaaDoorMFwB

/- The document's Right. -/
set_option linter.unusedSimpArgs false
set_option linter.unusedVariables false
set_option maxRecDepth 20000
namespace Go.Proofs.YtpcfkjeikhehaaaDoor
open Go.RowKit
theorem fieldsS_ne (k : Int) : (fieldsS k).toList.isEmpty = !(decide (1 ≤ k) && decide (k ≤ 5)) := by
  by_cases hk : 1 ≤ k ∧ k ≤ 5
  · have h5 : k = 1 ∨ k = 2 ∨ k = 3 ∨ k = 4 ∨ k = 5 := by omega
    clear hk
    rcases h5 with rfl | rfl | rfl | rfl | rfl <;> decide +kernel
  · unfold fieldsS
    rw [fields_off hk]
    have : (decide (1 ≤ k) && decide (k ≤ 5)) = false := by
      rw [Bool.and_eq_false_iff, decide_eq_false_iff_not, decide_eq_false_iff_not]; omega
    rw [this]; decide +kernel
@[go_sem high] theorem two_at0 (x y : Int) (w : World) : (Instr.index 68 (.agg #[I x, I y]) (.int .i64 0)).run Tryd.prog w = .ok (I x) w := by
  rw [index_one (n := 2) Tryd.underlying68 Tryd.underlying3 rfl (by kernel_rfl)]; rfl
@[go_sem high] theorem two_at1 (x y : Int) (w : World) : (Instr.index 68 (.agg #[I x, I y]) (.int .i64 1)).run Tryd.prog w = .ok (I y) w := by
  rw [index_one (n := 2) Tryd.underlying68 Tryd.underlying3 rfl (by kernel_rfl)]; rfl
set_option maxHeartbeats 4000000 in
theorem right_any (m : Ms) (v : Value) (w : World) (hs : MsV w v m) (he : m.es.length ≤ 10000000) :
    Calls Tryd.prog 19 #[v] w (Post w (.bool (rightM m))) := by
  have HI := right_iff m
  obtain ⟨ev, mv, dv, rfl, h1, h2, h3⟩ := hs.out
  obtain ⟨a1, c1, rfl, e1, e2, e3, r1⟩ := h1.out
  obtain ⟨a2, c2, rfl, f1, f2, f3, r2⟩ := h2.out
  obtain ⟨a3, c3, rfl, g1, g2, g3, _⟩ := h3.out
  have HZ := Lib.hid (fun w' => zero_any m.kd w' m.fr m.to m.tm m.pi m.pt m.cm a1 a2 a3 m.es.length c1 m.mb.length c2 m.da.length c3 m.ok)
  rw [show zeroB m.kd m.es.length m.mb.length m.da.length m.ok m.pi m.pt m.cm = zeroM m from rfl] at HZ
  have HFd := Lib.hid (fields_any m.kd)
  have hfs := fieldsS_ne m.kd
  have HE : Hid (∀ W, Ex w W → ∀ i, i < m.es.length → ∃ g off da dc, a1 = some ⟨g, off, none⟩ ∧ g < W.heap.size ∧ W.cell? ⟨g, off + i * 3, none⟩ = some (L (enAt m.es i).1) ∧ W.cell? ⟨g, off + i * 3 + 1, none⟩ = some (I (enAt m.es i).2.1) ∧
    W.cell? ⟨g, off + i * 3 + 2, none⟩ = some (.slice da (enAt m.es i).2.2.length dc) ∧ SlT W (.slice da (enAt m.es i).2.2.length dc) (enAt m.es i).2.2) := Lib.hid fun W k i hi => (r1.ex k).row hi
  have HM : Hid (∀ W, Ex w W → ∀ i, i < m.mb.length → ∃ g off, a2 = some ⟨g, off, none⟩ ∧ g < W.heap.size ∧ W.cell? ⟨g, off + i, none⟩ = some (I (inAt m.mb i))) := Lib.hid fun W k i hi => (r2.ex k).row hi
  have HP0 : Hid (prevT m.pt m.es 0 = m.pt) := Lib.hid rfl
  have HP1 : Hid (∀ i, prevT m.pt m.es (i + 1) = (enAt m.es i).1) := Lib.hid fun i => prevT_succ _ _ i
  have HW : Hid (∀ i, wellE (enAt m.es i) = wellN (enAt m.es i).1 (enAt m.es i).2.1 (enAt m.es i).2.2.length) := Lib.hid fun i => rfl
  generalize fieldsS m.kd = fs at *
  generalize zeroM m = zb at *
  have HN0 := fun h => Bool.eq_false_iff.2 (mt HI.1 h)
  have HN := Lib.hid HN0
  clear HN0
  have HY := Lib.hid HI.2
  clear HI h1 h2 h3 hs r1 r2
  generalize rightM m = ov at *
  obtain ⟨kd, fr, to, tm, pi, pt, es, cm, ok, mb, da⟩ := m
  simp only at *
  generalize prevT pt es = Pv at *
  generalize enAt es = E at *
  generalize inAt mb = Mb at *
  generalize es.length = ne at *
  generalize mb.length = nm at *
  generalize da.length = nd at *
  unfold maxLen at e2 f2 g2
  have hx : ∀ {p : Prop}, ¬ p → (p → False) := fun h => h
  cases hkk : (decide (1 ≤ kd) && decide (kd ≤ 5)) with
  | false =>
    rw [hkk, Bool.not_false] at hfs
    have ho : ov = false := HN.out fun hC => by
      rw [decide_eq_true hC.1.1.1, decide_eq_true hC.1.1.2] at hkk; cases hkk
    subst ho
    clear HN HY
    go_enter Tryd.func19, Tryd.ntmps19
    go_wp2_with (first | (go_at_call 38; (with_reducible refine (HFd.out _).mono ?_); rintro e w2 ⟨rfl, X, rfl⟩) | (go_at_call 39; (with_reducible refine (HZ.out _).mono ?_); rintro e w2 ⟨rfl, X, rfl⟩))
    go_ret
    exact post_mk rfl (by (try show Ex _ _); repeat (first | (with_reducible exact ex_refl _) | (with_reducible assumption) | (with_reducible refine ex_drewL ?_) | (with_reducible refine ex_appR ?_ _) | (with_reducible refine ex_wx ?_ _) | (with_reducible refine ex_drew ?_) | (with_reducible refine ex_alloc ?_ _)))
  | true =>
  rw [hkk, Bool.not_true] at hfs
  simp only [Bool.and_eq_true, decide_eq_true_eq] at hkk
  cases zb with
  | false =>
    have ho : ov = false := HN.out fun hC => by cases hC.1.2.1
    subst ho
    clear HN HY
    go_enter Tryd.func19, Tryd.ntmps19
    go_wp2_with (first | (go_at_call 38; (with_reducible refine (HFd.out _).mono ?_); rintro e w2 ⟨rfl, X, rfl⟩) | (go_at_call 39; (with_reducible refine (HZ.out _).mono ?_); rintro e w2 ⟨rfl, X, rfl⟩))
    go_ret
    exact post_mk rfl (by (try show Ex _ _); repeat (first | (with_reducible exact ex_refl _) | (with_reducible assumption) | (with_reducible refine ex_drewL ?_) | (with_reducible refine ex_appR ?_ _) | (with_reducible refine ex_wx ?_ _) | (with_reducible refine ex_drew ?_) | (with_reducible refine ex_alloc ?_ _)))
  | true =>
  have htm : ln tm = (tm.toNat : Int) := rfl
  by_cases t1 : ln tm < 1
  · have ho : ov = false := HN.out fun hC => by have := hC.1.2.2.1; omega
    have t1' : decide (ln tm < 1) = true := decide_eq_true t1
    clear htm
    subst ho
    clear HN HY
    go_enter Tryd.func19, Tryd.ntmps19
    go_wp2_with (first | (go_at_call 38; (with_reducible refine (HFd.out _).mono ?_); rintro e w2 ⟨rfl, X, rfl⟩) | (go_at_call 39; (with_reducible refine (HZ.out _).mono ?_); rintro e w2 ⟨rfl, X, rfl⟩))
    go_ret
    exact post_mk rfl (by (try show Ex _ _); repeat (first | (with_reducible exact ex_refl _) | (with_reducible assumption) | (with_reducible refine ex_drewL ?_) | (with_reducible refine ex_appR ?_ _) | (with_reducible refine ex_wx ?_ _) | (with_reducible refine ex_drew ?_) | (with_reducible refine ex_alloc ?_ _)))
  have t1' : decide (ln tm < 1) = false := decide_eq_false t1
  by_cases t2 : 4611686018427387904 < ln tm
  · have ho : ov = false := HN.out fun hC => by have := hC.1.2.2.2.1; omega
    have t2' : decide (4611686018427387904 < ln tm) = true := decide_eq_true t2
    clear htm
    subst ho
    clear HN HY
    go_enter Tryd.func19, Tryd.ntmps19
    go_wp2_with (first | (go_at_call 38; (with_reducible refine (HFd.out _).mono ?_); rintro e w2 ⟨rfl, X, rfl⟩) | (go_at_call 39; (with_reducible refine (HZ.out _).mono ?_); rintro e w2 ⟨rfl, X, rfl⟩))
    go_ret
    exact post_mk rfl (by (try show Ex _ _); repeat (first | (with_reducible exact ex_refl _) | (with_reducible assumption) | (with_reducible refine ex_drewL ?_) | (with_reducible refine ex_appR ?_ _) | (with_reducible refine ex_wx ?_ _) | (with_reducible refine ex_drew ?_) | (with_reducible refine ex_alloc ?_ _)))
  have t2' : decide (4611686018427387904 < ln tm) = false := decide_eq_false t2
  by_cases t3 : fr = to
  · have ho : ov = false := HN.out fun hC => hC.1.2.2.2.2 t3
    have t3' : (fr == to) = true := beq_iff_eq.2 t3
    clear htm t3
    subst ho
    clear HN HY
    go_enter Tryd.func19, Tryd.ntmps19
    go_wp2_with (first | (go_at_call 38; (with_reducible refine (HFd.out _).mono ?_); rintro e w2 ⟨rfl, X, rfl⟩) | (go_at_call 39; (with_reducible refine (HZ.out _).mono ?_); rintro e w2 ⟨rfl, X, rfl⟩))
    go_ret
    exact post_mk rfl (by (try show Ex _ _); repeat (first | (with_reducible exact ex_refl _) | (with_reducible assumption) | (with_reducible refine ex_drewL ?_) | (with_reducible refine ex_appR ?_ _) | (with_reducible refine ex_wx ?_ _) | (with_reducible refine ex_drew ?_) | (with_reducible refine ex_alloc ?_ _)))
  · have t3' : (fr == to) = false := beq_eq_false_iff_ne.2 t3
    have hC1 : Hid ((1 ≤ kd ∧ kd ≤ 5) ∧ true = true ∧ 1 ≤ tm.toNat ∧ tm.toNat ≤ 4611686018427387904 ∧ fr ≠ to) := Lib.hid ⟨hkk, rfl, by omega, by omega, t3⟩
    clear htm
    obtain ⟨A, hA⟩ : ∃ A, w.alloc (.cells #[I kd, I fr, I to, L tm, L pi, L pt, .slice a1 ne c1, L cm, .bool ok, .slice a2 nm c2, .slice a3 nd c3] 41) = A := ⟨_, rfl⟩
    have hq0 : A.heap[w.heap.size]? = some (.cells #[I kd, I fr, I to, L tm, L pi, L pt, .slice a1 ne c1, L cm, .bool ok, .slice a2 nm c2, .slice a3 nd c3] 41 (0, 0)) := by rw [← hA]; exact heap_alloc_new w _
    have hz0 : w.heap.size < A.heap.size := by rw [← hA]; simp [go_sem]
    have hk0 : Ex w A := by rw [← hA]; exact ex_alloc (ex_refl _) _
    replace hA := Lib.hid hA
    replace hq0 := Lib.hid hq0
    go_enter Tryd.func19, Tryd.ntmps19
    go_wp2_with (first | (go_at_call 38; (with_reducible refine (HFd.out _).mono ?_); rintro e w2 ⟨rfl, X, rfl⟩) | (go_at_call 39; (with_reducible refine (HZ.out _).mono ?_); rintro e w2 ⟨rfl, X, rfl⟩))
    rw [hA.out]
    clear hA HFd HZ hfs
    obtain ⟨r0, _⟩ := block_cell (o := 0) hq0.out rfl
    obtain ⟨r1, _⟩ := block_cell (o := 1) hq0.out rfl
    obtain ⟨r2, _⟩ := block_cell (o := 2) hq0.out rfl
    obtain ⟨r3, _⟩ := block_cell (o := 3) hq0.out rfl
    obtain ⟨r4, _⟩ := block_cell (o := 4) hq0.out rfl
    obtain ⟨r5, _⟩ := block_cell (o := 5) hq0.out rfl
    obtain ⟨r6, _⟩ := block_cell (o := 6) hq0.out rfl
    obtain ⟨r7, _⟩ := block_cell (o := 7) hq0.out rfl
    obtain ⟨r8, _⟩ := block_cell (o := 8) hq0.out rfl
    obtain ⟨r9, _⟩ := block_cell (o := 9) hq0.out rfl
    obtain ⟨r10, _⟩ := block_cell (o := 10) hq0.out rfl
    simp only [List.getElem_toArray, List.getElem_cons_zero, List.getElem_cons_succ] at r0 r1 r2 r3 r4 r5 r6 r7 r8 r9 r10
    go_wp2
    go_loopw [42] (fun i wr => ∃ k : Nat, k ≤ 2 ∧ i = I k ∧ Hid (1 ≤ k → 1 ≤ fr ∧ fr ≤ 5) ∧ Hid (2 ≤ k → 1 ≤ to ∧ to ≤ 5) ∧ Ex A wr) (fun i _ => 2 - (intOf i).toNat)
    case atStart => exact ⟨0, by omega, rfl, Lib.hid (fun h => absurd h (by omega)), Lib.hid (fun h => absurd h (by omega)), (by (try show Ex _ _); repeat (first | (with_reducible exact ex_refl _) | (with_reducible assumption) | (with_reducible refine ex_drewL ?_) | (with_reducible refine ex_appR ?_ _) | (with_reducible refine ex_wx ?_ _) | (with_reducible refine ex_drew ?_) | (with_reducible refine ex_alloc ?_ _)))⟩
    case round =>
      obtain ⟨k, hk, rfl, N1, N2, X9, rfl⟩ := hrel
      rcases (show k = 0 ∨ k = 1 ∨ k = 2 by omega) with rfl | rfl | rfl
      · rcases (show fr < 1 ∨ (¬ fr < 1 ∧ 5 < fr) ∨ (¬ fr < 1 ∧ ¬ 5 < fr) by omega) with j1 | ⟨j1, j2⟩ | ⟨j1, j2⟩
        · have ho : ov = false := HN.out fun hC => by have := hC.2.1; omega
          subst ho
          go_wp2
          go_ret
          exact post_mk rfl (ex_trans hk0 (by (try show Ex _ _); repeat (first | (with_reducible exact ex_refl _) | (with_reducible assumption) | (with_reducible refine ex_drewL ?_) | (with_reducible refine ex_appR ?_ _) | (with_reducible refine ex_wx ?_ _) | (with_reducible refine ex_drew ?_) | (with_reducible refine ex_alloc ?_ _))))
        · have ho : ov = false := HN.out fun hC => by have := hC.2.1; omega
          subst ho
          go_wp2
          go_ret
          exact post_mk rfl (ex_trans hk0 (by (try show Ex _ _); repeat (first | (with_reducible exact ex_refl _) | (with_reducible assumption) | (with_reducible refine ex_drewL ?_) | (with_reducible refine ex_appR ?_ _) | (with_reducible refine ex_wx ?_ _) | (with_reducible refine ex_drew ?_) | (with_reducible refine ex_alloc ?_ _))))
        · go_wp2
          refine ⟨⟨1, by omega, by go_num, Lib.hid (fun _ => by omega), Lib.hid (fun h => absurd h (by omega)), (by (try show Ex _ _); repeat (first | (with_reducible exact ex_refl _) | (with_reducible assumption) | (with_reducible refine ex_drewL ?_) | (with_reducible refine ex_appR ?_ _) | (with_reducible refine ex_wx ?_ _) | (with_reducible refine ex_drew ?_) | (with_reducible refine ex_alloc ?_ _)))⟩, by simp [intOf]⟩
      · rcases (show to < 1 ∨ (¬ to < 1 ∧ 5 < to) ∨ (¬ to < 1 ∧ ¬ 5 < to) by omega) with j1 | ⟨j1, j2⟩ | ⟨j1, j2⟩
        · have ho : ov = false := HN.out fun hC => by have := hC.2.2.1; omega
          subst ho
          go_wp2
          go_ret
          exact post_mk rfl (ex_trans hk0 (by (try show Ex _ _); repeat (first | (with_reducible exact ex_refl _) | (with_reducible assumption) | (with_reducible refine ex_drewL ?_) | (with_reducible refine ex_appR ?_ _) | (with_reducible refine ex_wx ?_ _) | (with_reducible refine ex_drew ?_) | (with_reducible refine ex_alloc ?_ _))))
        · have ho : ov = false := HN.out fun hC => by have := hC.2.2.1; omega
          subst ho
          go_wp2
          go_ret
          exact post_mk rfl (ex_trans hk0 (by (try show Ex _ _); repeat (first | (with_reducible exact ex_refl _) | (with_reducible assumption) | (with_reducible refine ex_drewL ?_) | (with_reducible refine ex_appR ?_ _) | (with_reducible refine ex_wx ?_ _) | (with_reducible refine ex_drew ?_) | (with_reducible refine ex_alloc ?_ _))))
        · have N1' := Lib.hid (N1.out (by omega))
          go_wp2
          refine ⟨⟨2, by omega, by go_num, Lib.hid (fun _ => N1'.out), Lib.hid (fun _ => by omega), (by (try show Ex _ _); repeat (first | (with_reducible exact ex_refl _) | (with_reducible assumption) | (with_reducible refine ex_drewL ?_) | (with_reducible refine ex_appR ?_ _) | (with_reducible refine ex_wx ?_ _) | (with_reducible refine ex_drew ?_) | (with_reducible refine ex_alloc ?_ _)))⟩, by simp [intOf]⟩
      · have hC2 := Lib.hid (N1.out (by omega))
        have hC3 := Lib.hid (N2.out (by omega))
        clear N1 N2 hk
        have n4 : cellsN A w.heap.size 4 2 = some #[L pi, L pt] := cellsN_some.2 ⟨rfl, fun j hj => by
          have : j = 0 ∨ j = 1 := by omega
          rcases this with rfl | rfl
          · exact r4
          · exact r5⟩
        have hp0 : (ln pi == 0) = decide (pi = 0) := ln_zero pi
        have hp1 : (ln pt == 0) = decide (pt = 0) := ln_zero pt
        by_cases hpp : (pi = 0 ↔ pt = 0)
        · have hpq : ((ln pi == 0) != (ln pt == 0)) = false := by
            rw [hp0, hp1]
            by_cases h8 : pi = 0 <;> by_cases h9 : pt = 0 <;> simp_all
          have hpq2 : (ln pi == 0) = (ln pt == 0) := by simpa using hpq
          have ltm : ln tm = (tm.toNat : Int) := rfl
          have lpt : ln pt = (pt.toNat : Int) := rfl
          have lpi : ln pi = (pi.toNat : Int) := rfl
          by_cases s2 : ln tm < ln pt
          · have ho : ov = false := HN.out fun hC => by have := hC.2.2.2.1.2.1; omega
            clear ltm lpt lpi hpq2 hp0 hp1
            subst ho
            go_wp2
            all_goals (go_ret; exact post_mk rfl (ex_trans hk0 (by (try show Ex _ _); repeat (first | (with_reducible exact ex_refl _) | (with_reducible assumption) | (with_reducible refine ex_drewL ?_) | (with_reducible refine ex_appR ?_ _) | (with_reducible refine ex_wx ?_ _) | (with_reducible refine ex_drew ?_) | (with_reducible refine ex_alloc ?_ _)))))
          · have s2' : decide (ln tm < ln pt) = false := decide_eq_false s2
            by_cases s3 : kd = 5 ∧ pi = 0
            · have ho : ov = false := HN.out fun hC => hC.2.2.2.1.2.2.1 s3
              have k5 : (kd == 5) = true := beq_iff_eq.2 s3.1
              have p5 : (ln pi == 0) = true := by rw [hp0]; exact decide_eq_true s3.2
              have q5 : (ln pt == 0) = true := by rw [← hpq2]; exact p5
              clear ltm lpt lpi hpq hpq2 hp0 hp1 hpp s3
              subst ho
              go_wp2
              go_ret
              exact post_mk rfl (ex_trans hk0 (by (try show Ex _ _); repeat (first | (with_reducible exact ex_refl _) | (with_reducible assumption) | (with_reducible refine ex_drewL ?_) | (with_reducible refine ex_appR ?_ _) | (with_reducible refine ex_wx ?_ _) | (with_reducible refine ex_drew ?_) | (with_reducible refine ex_alloc ?_ _))))
            · have u1 : IntKind.u64.wrap (ne : Int) = ne := wrap_u64_nat _ (by omega)
              have u2 : IntKind.u64.wrap (18446744073709551614 - (ne : Int)) = 18446744073709551614 - (ne : Int) := by rw [IntKind.wrap_u64]; omega
              have hC4 : Hid (pi.toNat + ne ≤ 18446744073709551614 → (pi = 0 ↔ pt = 0) ∧ pt.toNat ≤ tm.toNat ∧ ¬ (kd = 5 ∧ pi = 0) ∧ pi.toNat + ne ≤ 18446744073709551614) := Lib.hid fun hr => ⟨hpp, by omega, s3, hr⟩
              have hrm : Hid (¬ 18446744073709551614 - (ne : Int) < ln pi → pi.toNat + ne ≤ 18446744073709551614) := Lib.hid fun hr => by omega
              have hrm2 : Hid (18446744073709551614 - (ne : Int) < ln pi → ¬ pi.toNat + ne ≤ 18446744073709551614) := Lib.hid fun hr => by omega
              have hways : ((kd == 5) = true ∧ (ln pi == 0) = false ∧ (ln pt == 0) = false) ∨ ((kd == 5) = false ∧ (ln pi == 0) = false ∧ (ln pt == 0) = false) ∨ ((kd == 5) = false ∧ (ln pi == 0) = true ∧ (ln pt == 0) = true) := by
                rw [← hpq2]
                by_cases h8 : kd = 5 <;> by_cases h9 : pi = 0 <;> simp_all
              clear ltm lpt lpi hpq hpq2 hp0 hp1 hpp s3
              rcases hways with ⟨k5, p5, q5⟩ | ⟨k5, p5, q5⟩ | ⟨k5, p5, q5⟩
              · skip
                by_cases s4 : 18446744073709551614 - (ne : Int) < ln pi
                · have ho : ov = false := HN.out fun hC => hrm2.out s4 hC.2.2.2.1.2.2.2
                  have s4' : decide (18446744073709551614 - (ne : Int) < ln pi) = true := decide_eq_true s4
                  subst ho
                  go_wp2
                  go_ret
                  exact post_mk rfl (ex_trans hk0 (by (try show Ex _ _); repeat (first | (with_reducible exact ex_refl _) | (with_reducible assumption) | (with_reducible refine ex_drewL ?_) | (with_reducible refine ex_appR ?_ _) | (with_reducible refine ex_wx ?_ _) | (with_reducible refine ex_drew ?_) | (with_reducible refine ex_alloc ?_ _))))
                · have s4' : decide (18446744073709551614 - (ne : Int) < ln pi) = false := decide_eq_false s4
                  have hC4' := Lib.hid (hC4.out (hrm.out s4))
                  clear hC4 hrm hrm2
                  by_cases v1 : 8 < ne
                  · have ho : ov = false := HN.out fun hC => by have := hC.2.2.2.2.1.1; omega
                    have v1' : decide ((8 : Int) < ne) = true := decide_eq_true (by omega)
                    subst ho
                    go_wp2
                    go_ret
                    exact post_mk rfl (ex_trans hk0 (by (try show Ex _ _); repeat (first | (with_reducible exact ex_refl _) | (with_reducible assumption) | (with_reducible refine ex_drewL ?_) | (with_reducible refine ex_appR ?_ _) | (with_reducible refine ex_wx ?_ _) | (with_reducible refine ex_drew ?_) | (with_reducible refine ex_alloc ?_ _))))
                  by_cases v2 : 5 < nm
                  · have ho : ov = false := HN.out fun hC => by have := hC.2.2.2.2.1.2.1; omega
                    have v1' : decide ((8 : Int) < ne) = false := decide_eq_false (by omega)
                    have v2' : decide ((5 : Int) < nm) = true := decide_eq_true (by omega)
                    subst ho
                    go_wp2
                    go_ret
                    exact post_mk rfl (ex_trans hk0 (by (try show Ex _ _); repeat (first | (with_reducible exact ex_refl _) | (with_reducible assumption) | (with_reducible refine ex_drewL ?_) | (with_reducible refine ex_appR ?_ _) | (with_reducible refine ex_wx ?_ _) | (with_reducible refine ex_drew ?_) | (with_reducible refine ex_alloc ?_ _))))
                  by_cases v3 : 65536 < nd
                  · have ho : ov = false := HN.out fun hC => by have := hC.2.2.2.2.1.2.2; omega
                    have v1' : decide ((8 : Int) < ne) = false := decide_eq_false (by omega)
                    have v2' : decide ((5 : Int) < nm) = false := decide_eq_false (by omega)
                    have v3' : decide ((65536 : Int) < nd) = true := decide_eq_true (by omega)
                    subst ho
                    go_wp2
                    go_ret
                    exact post_mk rfl (ex_trans hk0 (by (try show Ex _ _); repeat (first | (with_reducible exact ex_refl _) | (with_reducible assumption) | (with_reducible refine ex_drewL ?_) | (with_reducible refine ex_appR ?_ _) | (with_reducible refine ex_wx ?_ _) | (with_reducible refine ex_drew ?_) | (with_reducible refine ex_alloc ?_ _))))
                  have v1' : decide ((8 : Int) < ne) = false := decide_eq_false (by omega)
                  have v2' : decide ((5 : Int) < nm) = false := decide_eq_false (by omega)
                  have v3' : decide ((65536 : Int) < nd) = false := decide_eq_false (by omega)
                  have hC5 : Hid (ne ≤ 8 ∧ nm ≤ 5 ∧ nd ≤ 65536) := Lib.hid ⟨by omega, by omega, by omega⟩
                  have hm3 : nm ≤ 5 := by omega
                  have hn3 : ne ≤ 8 := by omega
                  clear v1 v2 v3 s4
                  go_wp2
                  obtain ⟨A2, hA2⟩ : ∃ A2, (wx A X9).alloc (.cells #[L pi, L pt] 35) = A2 := ⟨_, rfl⟩
                  rw [hA2]
                  obtain ⟨b5, hb5⟩ : ∃ b5, A.heap.size + X9.blocks.length = b5 := ⟨_, rfl⟩
                  have hq5 : A2.heap[b5]? = some (.cells #[L pi, L pt] 35 (0, 0)) := by rw [← hA2]; exact alloc_at (by simp [go_sem]; omega)
                  have hz5 : b5 < A2.heap.size := (Array.getElem?_eq_some_iff.1 hq5).1
                  have hK2 : Ex A A2 := by rw [← hA2]; exact ex_alloc ⟨X9, rfl⟩ _
                  have hq2 := ex_block hK2 hq0.out
                  have hz2 : w.heap.size < A2.heap.size := Nat.lt_of_lt_of_le hz0 (ex_size hK2)
                  have hkA := ex_trans hk0 hK2
                  rw [hb5]
                  clear hA2 hb5 r0 r1 r2 r3 r4 r5 r6 r7 r8 r9 r10 n4 hk0 hK2
                  obtain ⟨o1, _⟩ := block_cell (o := 1) hq5 rfl
                  obtain ⟨r3, _⟩ := block_cell (o := 3) hq2 rfl
                  obtain ⟨r6, _⟩ := block_cell (o := 6) hq2 rfl
                  simp only [List.getElem_toArray, List.getElem_cons_zero, List.getElem_cons_succ] at o1 r3 r6
                  clear hq2 hq5 hq0
                  go_loopw [109] (fun i wr => ∃ k : Nat, k ≤ nm ∧ i = I k ∧ Hid (∀ i, i < k → 1 ≤ Mb i ∧ Mb i ≤ 255) ∧ Ex A2 wr) (fun i _ => nm - (intOf i).toNat)
                  case atStart => exact ⟨0, by omega, rfl, Lib.hid (fun i h => absurd h (by omega)), (by (try show Ex _ _); repeat (first | (with_reducible exact ex_refl _) | (with_reducible assumption) | (with_reducible refine ex_drewL ?_) | (with_reducible refine ex_appR ?_ _) | (with_reducible refine ex_wx ?_ _) | (with_reducible refine ex_drew ?_) | (with_reducible refine ex_alloc ?_ _)))⟩
                  case round =>
                    obtain ⟨q, hq, rfl, HQ, Y9, rfl⟩ := hrel
                    by_cases hlt : q < nm
                    · obtain ⟨g, off, rfl, hg, hcl⟩ := HM.out _ (ex_trans hkA ⟨Y9, rfl⟩) q hlt
                      have hNb : Hid (¬ (1 ≤ Mb q ∧ Mb q ≤ 255) → ov = false) := Lib.hid fun h => HN.out fun hC => h (hC.2.2.2.2.2.1 q hlt)
                      clear HM
                      rcases (show Mb q < 1 ∨ (¬ Mb q < 1 ∧ 255 < Mb q) ∨ (¬ Mb q < 1 ∧ ¬ 255 < Mb q) by omega) with j1 | ⟨j1, j2⟩ | ⟨j1, j2⟩
                      · have ho : ov = false := hNb.out (by omega)
                        subst ho
                        go_wp2
                        go_ret
                        exact post_mk rfl (ex_trans hkA (by (try show Ex _ _); repeat (first | (with_reducible exact ex_refl _) | (with_reducible assumption) | (with_reducible refine ex_drewL ?_) | (with_reducible refine ex_appR ?_ _) | (with_reducible refine ex_wx ?_ _) | (with_reducible refine ex_drew ?_) | (with_reducible refine ex_alloc ?_ _))))
                      · have ho : ov = false := hNb.out (by omega)
                        subst ho
                        go_wp2
                        go_ret
                        exact post_mk rfl (ex_trans hkA (by (try show Ex _ _); repeat (first | (with_reducible exact ex_refl _) | (with_reducible assumption) | (with_reducible refine ex_drewL ?_) | (with_reducible refine ex_appR ?_ _) | (with_reducible refine ex_wx ?_ _) | (with_reducible refine ex_drew ?_) | (with_reducible refine ex_alloc ?_ _))))
                      · have hB : Hid (1 ≤ Mb q ∧ Mb q ≤ 255) := Lib.hid (by omega)
                        go_wp2
                        refine ⟨⟨q + 1, by omega, by go_num, Lib.hid fun i hi => ?_, (by (try show Ex _ _); repeat (first | (with_reducible exact ex_refl _) | (with_reducible assumption) | (with_reducible refine ex_drewL ?_) | (with_reducible refine ex_appR ?_ _) | (with_reducible refine ex_wx ?_ _) | (with_reducible refine ex_drew ?_) | (with_reducible refine ex_alloc ?_ _)))⟩, by simp [intOf]; omega⟩
                        rcases Nat.lt_or_ge i q with h9 | h9
                        · exact HQ.out i h9
                        · obtain rfl : i = q := by omega
                          exact hB.out
                    · obtain rfl : q = nm := by omega
                      clear hlt hq HM
                      go_wp2
                      go_loopw [8, 125] (fun l i wr => ∃ k : Nat, k ≤ ne ∧ i = I k ∧ l = L (Pv k) ∧ Hid (∀ i, i < k → wellE (E i) = true ∧ (Pv i).toNat ≤ (E i).1.toNat ∧ (E i).1.toNat ≤ tm.toNat) ∧ Ex A2 wr) (fun _ i _ => ne - (intOf i).toNat)
                      case atStart => exact ⟨0, by omega, rfl, by rw [HP0.out], Lib.hid (fun i h => absurd h (by omega)), (by (try show Ex _ _); repeat (first | (with_reducible exact ex_refl _) | (with_reducible assumption) | (with_reducible refine ex_drewL ?_) | (with_reducible refine ex_appR ?_ _) | (with_reducible refine ex_wx ?_ _) | (with_reducible refine ex_drew ?_) | (with_reducible refine ex_alloc ?_ _)))⟩
                      case round =>
                        obtain ⟨k, hk, rfl, rfl, HR, Z9, rfl⟩ := hrel
                        by_cases hlt : k < ne
                        · obtain ⟨g, off, da3, dc3, rfl, hg, d0, d1, d2, _⟩ := HE.out _ (ex_trans hkA ⟨Z9, rfl⟩) k hlt
                          have hw := HW.out k
                          have hP := HP1.out k
                          have hNb : Hid (¬ (wellE (E k) = true ∧ (Pv k).toNat ≤ (E k).1.toNat ∧ (E k).1.toNat ≤ tm.toNat) → ov = false) := Lib.hid fun h => HN.out fun hC => h (hC.2.2.2.2.2.2 k hlt)
                          have hBe : Hid (∀ i, i < k + 1 → i < k ∨ i = k) := Lib.hid fun i h => by omega
                          have HP' : Hid (L (E k).1 = L (Pv (k + 1))) := Lib.hid (by rw [hP])
                          clear HE HP0 HP1 HW hP
                          rw [hw] at hNb
                          have hw := Lib.hid hw
                          generalize hEk : E k = e at *
                          generalize hPk : Pv k = lk at *
                          replace hEk := Lib.hid hEk
                          replace hPk := Lib.hid hPk
                          obtain ⟨et, ek, ed⟩ := e
                          simp only at d0 d1 d2 hNb hw HP'
                          have HRE := Lib.hid (fun w' => rightEntry_any et ek da3 ed.length dc3 w')
                          have hwl : Hid (wellE (et, ek, ed) = wellN et ek ed.length) := Lib.hid rfl
                          clear hw
                          generalize wellN et ek ed.length = wb at *
                          generalize ed.length = el at *
                          have ltm : ln tm = (tm.toNat : Int) := rfl
                          have let' : ln et = (et.toNat : Int) := rfl
                          have llk : ln lk = (lk.toNat : Int) := rfl
                          cases wb with
                          | false =>
                            have ho : ov = false := hNb.out (fun h => by cases h.1)
                            subst ho
                            clear ltm let' llk
                            go_wp2_with (first | (go_at_call 40; (with_reducible refine (HRE.out _).mono ?_); rintro e w2 ⟨rfl, X, rfl⟩))
                            go_ret
                            exact post_mk rfl (ex_trans hkA (by (try show Ex _ _); repeat (first | (with_reducible exact ex_refl _) | (with_reducible assumption) | (with_reducible refine ex_drewL ?_) | (with_reducible refine ex_appR ?_ _) | (with_reducible refine ex_wx ?_ _) | (with_reducible refine ex_drew ?_) | (with_reducible refine ex_alloc ?_ _))))
                          | true =>
                            rcases (show ln et < ln lk ∨ (¬ ln et < ln lk ∧ ln tm < ln et) ∨ (¬ ln et < ln lk ∧ ¬ ln tm < ln et) by omega) with j1 | ⟨j1, j2⟩ | ⟨j1, j2⟩
                            · have ho : ov = false := hNb.out (fun h => by have := h.2.1; omega)
                              subst ho
                              have j1' : decide (ln et < ln lk) = true := decide_eq_true j1
                              clear ltm let' llk
                              go_wp2_with (first | (go_at_call 40; (with_reducible refine (HRE.out _).mono ?_); rintro e w2 ⟨rfl, X, rfl⟩))
                              go_ret
                              exact post_mk rfl (ex_trans hkA (by (try show Ex _ _); repeat (first | (with_reducible exact ex_refl _) | (with_reducible assumption) | (with_reducible refine ex_drewL ?_) | (with_reducible refine ex_appR ?_ _) | (with_reducible refine ex_wx ?_ _) | (with_reducible refine ex_drew ?_) | (with_reducible refine ex_alloc ?_ _))))
                            · have ho : ov = false := hNb.out (fun h => by have := h.2.2; omega)
                              subst ho
                              have j1' : decide (ln et < ln lk) = false := decide_eq_false j1
                              have j2' : decide (ln tm < ln et) = true := decide_eq_true j2
                              clear ltm let' llk
                              go_wp2_with (first | (go_at_call 40; (with_reducible refine (HRE.out _).mono ?_); rintro e w2 ⟨rfl, X, rfl⟩))
                              go_ret
                              exact post_mk rfl (ex_trans hkA (by (try show Ex _ _); repeat (first | (with_reducible exact ex_refl _) | (with_reducible assumption) | (with_reducible refine ex_drewL ?_) | (with_reducible refine ex_appR ?_ _) | (with_reducible refine ex_wx ?_ _) | (with_reducible refine ex_drew ?_) | (with_reducible refine ex_alloc ?_ _))))
                            · have hB : Hid (lk.toNat ≤ et.toNat ∧ et.toNat ≤ tm.toNat) := Lib.hid (by omega)
                              have j1' : decide (ln et < ln lk) = false := decide_eq_false j1
                              have j2' : decide (ln tm < ln et) = false := decide_eq_false j2
                              clear ltm let' llk hNb HN HY
                              go_wp2_with (first | (go_at_call 40; (with_reducible refine (HRE.out _).mono ?_); rintro e w2 ⟨rfl, X, rfl⟩))
                              refine ⟨⟨k + 1, by omega, by go_num, HP'.out, Lib.hid fun i hi => ?_, (by (try show Ex _ _); repeat (first | (with_reducible exact ex_refl _) | (with_reducible assumption) | (with_reducible refine ex_drewL ?_) | (with_reducible refine ex_appR ?_ _) | (with_reducible refine ex_wx ?_ _) | (with_reducible refine ex_drew ?_) | (with_reducible refine ex_alloc ?_ _)))⟩, by simp [intOf]; omega⟩
                              rcases hBe.out i hi with h9 | rfl
                              · exact HR.out i h9
                              · rw [hEk.out, hPk.out]
                                exact ⟨hwl.out, hB.out.1, hB.out.2⟩
                        · obtain rfl : k = ne := by omega
                          have ho : ov = true := HY.out ⟨hC1.out, hC2.out, hC3.out, hC4'.out, hC5.out, HQ.out, HR.out⟩
                          subst ho
                          clear HE HP0 HP1 HW HN HY hk
                          go_wp2
                          go_ret
                          exact post_mk rfl (ex_trans hkA (by (try show Ex _ _); repeat (first | (with_reducible exact ex_refl _) | (with_reducible assumption) | (with_reducible refine ex_drewL ?_) | (with_reducible refine ex_appR ?_ _) | (with_reducible refine ex_wx ?_ _) | (with_reducible refine ex_drew ?_) | (with_reducible refine ex_alloc ?_ _))))
              · skip
                by_cases s4 : 18446744073709551614 - (ne : Int) < ln pi
                · have ho : ov = false := HN.out fun hC => hrm2.out s4 hC.2.2.2.1.2.2.2
                  have s4' : decide (18446744073709551614 - (ne : Int) < ln pi) = true := decide_eq_true s4
                  subst ho
                  go_wp2
                  go_ret
                  exact post_mk rfl (ex_trans hk0 (by (try show Ex _ _); repeat (first | (with_reducible exact ex_refl _) | (with_reducible assumption) | (with_reducible refine ex_drewL ?_) | (with_reducible refine ex_appR ?_ _) | (with_reducible refine ex_wx ?_ _) | (with_reducible refine ex_drew ?_) | (with_reducible refine ex_alloc ?_ _))))
                · have s4' : decide (18446744073709551614 - (ne : Int) < ln pi) = false := decide_eq_false s4
                  have hC4' := Lib.hid (hC4.out (hrm.out s4))
                  clear hC4 hrm hrm2
                  by_cases v1 : 8 < ne
                  · have ho : ov = false := HN.out fun hC => by have := hC.2.2.2.2.1.1; omega
                    have v1' : decide ((8 : Int) < ne) = true := decide_eq_true (by omega)
                    subst ho
                    go_wp2
                    go_ret
                    exact post_mk rfl (ex_trans hk0 (by (try show Ex _ _); repeat (first | (with_reducible exact ex_refl _) | (with_reducible assumption) | (with_reducible refine ex_drewL ?_) | (with_reducible refine ex_appR ?_ _) | (with_reducible refine ex_wx ?_ _) | (with_reducible refine ex_drew ?_) | (with_reducible refine ex_alloc ?_ _))))
                  by_cases v2 : 5 < nm
                  · have ho : ov = false := HN.out fun hC => by have := hC.2.2.2.2.1.2.1; omega
                    have v1' : decide ((8 : Int) < ne) = false := decide_eq_false (by omega)
                    have v2' : decide ((5 : Int) < nm) = true := decide_eq_true (by omega)
                    subst ho
                    go_wp2
                    go_ret
                    exact post_mk rfl (ex_trans hk0 (by (try show Ex _ _); repeat (first | (with_reducible exact ex_refl _) | (with_reducible assumption) | (with_reducible refine ex_drewL ?_) | (with_reducible refine ex_appR ?_ _) | (with_reducible refine ex_wx ?_ _) | (with_reducible refine ex_drew ?_) | (with_reducible refine ex_alloc ?_ _))))
                  by_cases v3 : 65536 < nd
                  · have ho : ov = false := HN.out fun hC => by have := hC.2.2.2.2.1.2.2; omega
                    have v1' : decide ((8 : Int) < ne) = false := decide_eq_false (by omega)
                    have v2' : decide ((5 : Int) < nm) = false := decide_eq_false (by omega)
                    have v3' : decide ((65536 : Int) < nd) = true := decide_eq_true (by omega)
                    subst ho
                    go_wp2
                    go_ret
                    exact post_mk rfl (ex_trans hk0 (by (try show Ex _ _); repeat (first | (with_reducible exact ex_refl _) | (with_reducible assumption) | (with_reducible refine ex_drewL ?_) | (with_reducible refine ex_appR ?_ _) | (with_reducible refine ex_wx ?_ _) | (with_reducible refine ex_drew ?_) | (with_reducible refine ex_alloc ?_ _))))
                  have v1' : decide ((8 : Int) < ne) = false := decide_eq_false (by omega)
                  have v2' : decide ((5 : Int) < nm) = false := decide_eq_false (by omega)
                  have v3' : decide ((65536 : Int) < nd) = false := decide_eq_false (by omega)
                  have hC5 : Hid (ne ≤ 8 ∧ nm ≤ 5 ∧ nd ≤ 65536) := Lib.hid ⟨by omega, by omega, by omega⟩
                  have hm3 : nm ≤ 5 := by omega
                  have hn3 : ne ≤ 8 := by omega
                  clear v1 v2 v3 s4
                  go_wp2
                  obtain ⟨A2, hA2⟩ : ∃ A2, (wx A X9).alloc (.cells #[L pi, L pt] 35) = A2 := ⟨_, rfl⟩
                  rw [hA2]
                  obtain ⟨b5, hb5⟩ : ∃ b5, A.heap.size + X9.blocks.length = b5 := ⟨_, rfl⟩
                  have hq5 : A2.heap[b5]? = some (.cells #[L pi, L pt] 35 (0, 0)) := by rw [← hA2]; exact alloc_at (by simp [go_sem]; omega)
                  have hz5 : b5 < A2.heap.size := (Array.getElem?_eq_some_iff.1 hq5).1
                  have hK2 : Ex A A2 := by rw [← hA2]; exact ex_alloc ⟨X9, rfl⟩ _
                  have hq2 := ex_block hK2 hq0.out
                  have hz2 : w.heap.size < A2.heap.size := Nat.lt_of_lt_of_le hz0 (ex_size hK2)
                  have hkA := ex_trans hk0 hK2
                  rw [hb5]
                  clear hA2 hb5 r0 r1 r2 r3 r4 r5 r6 r7 r8 r9 r10 n4 hk0 hK2
                  obtain ⟨o1, _⟩ := block_cell (o := 1) hq5 rfl
                  obtain ⟨r3, _⟩ := block_cell (o := 3) hq2 rfl
                  obtain ⟨r6, _⟩ := block_cell (o := 6) hq2 rfl
                  simp only [List.getElem_toArray, List.getElem_cons_zero, List.getElem_cons_succ] at o1 r3 r6
                  clear hq2 hq5 hq0
                  go_loopw [109] (fun i wr => ∃ k : Nat, k ≤ nm ∧ i = I k ∧ Hid (∀ i, i < k → 1 ≤ Mb i ∧ Mb i ≤ 255) ∧ Ex A2 wr) (fun i _ => nm - (intOf i).toNat)
                  case atStart => exact ⟨0, by omega, rfl, Lib.hid (fun i h => absurd h (by omega)), (by (try show Ex _ _); repeat (first | (with_reducible exact ex_refl _) | (with_reducible assumption) | (with_reducible refine ex_drewL ?_) | (with_reducible refine ex_appR ?_ _) | (with_reducible refine ex_wx ?_ _) | (with_reducible refine ex_drew ?_) | (with_reducible refine ex_alloc ?_ _)))⟩
                  case round =>
                    obtain ⟨q, hq, rfl, HQ, Y9, rfl⟩ := hrel
                    by_cases hlt : q < nm
                    · obtain ⟨g, off, rfl, hg, hcl⟩ := HM.out _ (ex_trans hkA ⟨Y9, rfl⟩) q hlt
                      have hNb : Hid (¬ (1 ≤ Mb q ∧ Mb q ≤ 255) → ov = false) := Lib.hid fun h => HN.out fun hC => h (hC.2.2.2.2.2.1 q hlt)
                      clear HM
                      rcases (show Mb q < 1 ∨ (¬ Mb q < 1 ∧ 255 < Mb q) ∨ (¬ Mb q < 1 ∧ ¬ 255 < Mb q) by omega) with j1 | ⟨j1, j2⟩ | ⟨j1, j2⟩
                      · have ho : ov = false := hNb.out (by omega)
                        subst ho
                        go_wp2
                        go_ret
                        exact post_mk rfl (ex_trans hkA (by (try show Ex _ _); repeat (first | (with_reducible exact ex_refl _) | (with_reducible assumption) | (with_reducible refine ex_drewL ?_) | (with_reducible refine ex_appR ?_ _) | (with_reducible refine ex_wx ?_ _) | (with_reducible refine ex_drew ?_) | (with_reducible refine ex_alloc ?_ _))))
                      · have ho : ov = false := hNb.out (by omega)
                        subst ho
                        go_wp2
                        go_ret
                        exact post_mk rfl (ex_trans hkA (by (try show Ex _ _); repeat (first | (with_reducible exact ex_refl _) | (with_reducible assumption) | (with_reducible refine ex_drewL ?_) | (with_reducible refine ex_appR ?_ _) | (with_reducible refine ex_wx ?_ _) | (with_reducible refine ex_drew ?_) | (with_reducible refine ex_alloc ?_ _))))
                      · have hB : Hid (1 ≤ Mb q ∧ Mb q ≤ 255) := Lib.hid (by omega)
                        go_wp2
                        refine ⟨⟨q + 1, by omega, by go_num, Lib.hid fun i hi => ?_, (by (try show Ex _ _); repeat (first | (with_reducible exact ex_refl _) | (with_reducible assumption) | (with_reducible refine ex_drewL ?_) | (with_reducible refine ex_appR ?_ _) | (with_reducible refine ex_wx ?_ _) | (with_reducible refine ex_drew ?_) | (with_reducible refine ex_alloc ?_ _)))⟩, by simp [intOf]; omega⟩
                        rcases Nat.lt_or_ge i q with h9 | h9
                        · exact HQ.out i h9
                        · obtain rfl : i = q := by omega
                          exact hB.out
                    · obtain rfl : q = nm := by omega
                      clear hlt hq HM
                      go_wp2
                      go_loopw [8, 125] (fun l i wr => ∃ k : Nat, k ≤ ne ∧ i = I k ∧ l = L (Pv k) ∧ Hid (∀ i, i < k → wellE (E i) = true ∧ (Pv i).toNat ≤ (E i).1.toNat ∧ (E i).1.toNat ≤ tm.toNat) ∧ Ex A2 wr) (fun _ i _ => ne - (intOf i).toNat)
                      case atStart => exact ⟨0, by omega, rfl, by rw [HP0.out], Lib.hid (fun i h => absurd h (by omega)), (by (try show Ex _ _); repeat (first | (with_reducible exact ex_refl _) | (with_reducible assumption) | (with_reducible refine ex_drewL ?_) | (with_reducible refine ex_appR ?_ _) | (with_reducible refine ex_wx ?_ _) | (with_reducible refine ex_drew ?_) | (with_reducible refine ex_alloc ?_ _)))⟩
                      case round =>
                        obtain ⟨k, hk, rfl, rfl, HR, Z9, rfl⟩ := hrel
                        by_cases hlt : k < ne
                        · obtain ⟨g, off, da3, dc3, rfl, hg, d0, d1, d2, _⟩ := HE.out _ (ex_trans hkA ⟨Z9, rfl⟩) k hlt
                          have hw := HW.out k
                          have hP := HP1.out k
                          have hNb : Hid (¬ (wellE (E k) = true ∧ (Pv k).toNat ≤ (E k).1.toNat ∧ (E k).1.toNat ≤ tm.toNat) → ov = false) := Lib.hid fun h => HN.out fun hC => h (hC.2.2.2.2.2.2 k hlt)
                          have hBe : Hid (∀ i, i < k + 1 → i < k ∨ i = k) := Lib.hid fun i h => by omega
                          have HP' : Hid (L (E k).1 = L (Pv (k + 1))) := Lib.hid (by rw [hP])
                          clear HE HP0 HP1 HW hP
                          rw [hw] at hNb
                          have hw := Lib.hid hw
                          generalize hEk : E k = e at *
                          generalize hPk : Pv k = lk at *
                          replace hEk := Lib.hid hEk
                          replace hPk := Lib.hid hPk
                          obtain ⟨et, ek, ed⟩ := e
                          simp only at d0 d1 d2 hNb hw HP'
                          have HRE := Lib.hid (fun w' => rightEntry_any et ek da3 ed.length dc3 w')
                          have hwl : Hid (wellE (et, ek, ed) = wellN et ek ed.length) := Lib.hid rfl
                          clear hw
                          generalize wellN et ek ed.length = wb at *
                          generalize ed.length = el at *
                          have ltm : ln tm = (tm.toNat : Int) := rfl
                          have let' : ln et = (et.toNat : Int) := rfl
                          have llk : ln lk = (lk.toNat : Int) := rfl
                          cases wb with
                          | false =>
                            have ho : ov = false := hNb.out (fun h => by cases h.1)
                            subst ho
                            clear ltm let' llk
                            go_wp2_with (first | (go_at_call 40; (with_reducible refine (HRE.out _).mono ?_); rintro e w2 ⟨rfl, X, rfl⟩))
                            go_ret
                            exact post_mk rfl (ex_trans hkA (by (try show Ex _ _); repeat (first | (with_reducible exact ex_refl _) | (with_reducible assumption) | (with_reducible refine ex_drewL ?_) | (with_reducible refine ex_appR ?_ _) | (with_reducible refine ex_wx ?_ _) | (with_reducible refine ex_drew ?_) | (with_reducible refine ex_alloc ?_ _))))
                          | true =>
                            rcases (show ln et < ln lk ∨ (¬ ln et < ln lk ∧ ln tm < ln et) ∨ (¬ ln et < ln lk ∧ ¬ ln tm < ln et) by omega) with j1 | ⟨j1, j2⟩ | ⟨j1, j2⟩
                            · have ho : ov = false := hNb.out (fun h => by have := h.2.1; omega)
                              subst ho
                              have j1' : decide (ln et < ln lk) = true := decide_eq_true j1
                              clear ltm let' llk
                              go_wp2_with (first | (go_at_call 40; (with_reducible refine (HRE.out _).mono ?_); rintro e w2 ⟨rfl, X, rfl⟩))
                              go_ret
                              exact post_mk rfl (ex_trans hkA (by (try show Ex _ _); repeat (first | (with_reducible exact ex_refl _) | (with_reducible assumption) | (with_reducible refine ex_drewL ?_) | (with_reducible refine ex_appR ?_ _) | (with_reducible refine ex_wx ?_ _) | (with_reducible refine ex_drew ?_) | (with_reducible refine ex_alloc ?_ _))))
                            · have ho : ov = false := hNb.out (fun h => by have := h.2.2; omega)
                              subst ho
                              have j1' : decide (ln et < ln lk) = false := decide_eq_false j1
                              have j2' : decide (ln tm < ln et) = true := decide_eq_true j2
                              clear ltm let' llk
                              go_wp2_with (first | (go_at_call 40; (with_reducible refine (HRE.out _).mono ?_); rintro e w2 ⟨rfl, X, rfl⟩))
                              go_ret
                              exact post_mk rfl (ex_trans hkA (by (try show Ex _ _); repeat (first | (with_reducible exact ex_refl _) | (with_reducible assumption) | (with_reducible refine ex_drewL ?_) | (with_reducible refine ex_appR ?_ _) | (with_reducible refine ex_wx ?_ _) | (with_reducible refine ex_drew ?_) | (with_reducible refine ex_alloc ?_ _))))
                            · have hB : Hid (lk.toNat ≤ et.toNat ∧ et.toNat ≤ tm.toNat) := Lib.hid (by omega)
                              have j1' : decide (ln et < ln lk) = false := decide_eq_false j1
                              have j2' : decide (ln tm < ln et) = false := decide_eq_false j2
                              clear ltm let' llk hNb HN HY
                              go_wp2_with (first | (go_at_call 40; (with_reducible refine (HRE.out _).mono ?_); rintro e w2 ⟨rfl, X, rfl⟩))
                              refine ⟨⟨k + 1, by omega, by go_num, HP'.out, Lib.hid fun i hi => ?_, (by (try show Ex _ _); repeat (first | (with_reducible exact ex_refl _) | (with_reducible assumption) | (with_reducible refine ex_drewL ?_) | (with_reducible refine ex_appR ?_ _) | (with_reducible refine ex_wx ?_ _) | (with_reducible refine ex_drew ?_) | (with_reducible refine ex_alloc ?_ _)))⟩, by simp [intOf]; omega⟩
                              rcases hBe.out i hi with h9 | rfl
                              · exact HR.out i h9
                              · rw [hEk.out, hPk.out]
                                exact ⟨hwl.out, hB.out.1, hB.out.2⟩
                        · obtain rfl : k = ne := by omega
                          have ho : ov = true := HY.out ⟨hC1.out, hC2.out, hC3.out, hC4'.out, hC5.out, HQ.out, HR.out⟩
                          subst ho
                          clear HE HP0 HP1 HW HN HY hk
                          go_wp2
                          go_ret
                          exact post_mk rfl (ex_trans hkA (by (try show Ex _ _); repeat (first | (with_reducible exact ex_refl _) | (with_reducible assumption) | (with_reducible refine ex_drewL ?_) | (with_reducible refine ex_appR ?_ _) | (with_reducible refine ex_wx ?_ _) | (with_reducible refine ex_drew ?_) | (with_reducible refine ex_alloc ?_ _))))
              · skip
                by_cases s4 : 18446744073709551614 - (ne : Int) < ln pi
                · have ho : ov = false := HN.out fun hC => hrm2.out s4 hC.2.2.2.1.2.2.2
                  have s4' : decide (18446744073709551614 - (ne : Int) < ln pi) = true := decide_eq_true s4
                  subst ho
                  go_wp2
                  go_ret
                  exact post_mk rfl (ex_trans hk0 (by (try show Ex _ _); repeat (first | (with_reducible exact ex_refl _) | (with_reducible assumption) | (with_reducible refine ex_drewL ?_) | (with_reducible refine ex_appR ?_ _) | (with_reducible refine ex_wx ?_ _) | (with_reducible refine ex_drew ?_) | (with_reducible refine ex_alloc ?_ _))))
                · have s4' : decide (18446744073709551614 - (ne : Int) < ln pi) = false := decide_eq_false s4
                  have hC4' := Lib.hid (hC4.out (hrm.out s4))
                  clear hC4 hrm hrm2
                  by_cases v1 : 8 < ne
                  · have ho : ov = false := HN.out fun hC => by have := hC.2.2.2.2.1.1; omega
                    have v1' : decide ((8 : Int) < ne) = true := decide_eq_true (by omega)
                    subst ho
                    go_wp2
                    go_ret
                    exact post_mk rfl (ex_trans hk0 (by (try show Ex _ _); repeat (first | (with_reducible exact ex_refl _) | (with_reducible assumption) | (with_reducible refine ex_drewL ?_) | (with_reducible refine ex_appR ?_ _) | (with_reducible refine ex_wx ?_ _) | (with_reducible refine ex_drew ?_) | (with_reducible refine ex_alloc ?_ _))))
                  by_cases v2 : 5 < nm
                  · have ho : ov = false := HN.out fun hC => by have := hC.2.2.2.2.1.2.1; omega
                    have v1' : decide ((8 : Int) < ne) = false := decide_eq_false (by omega)
                    have v2' : decide ((5 : Int) < nm) = true := decide_eq_true (by omega)
                    subst ho
                    go_wp2
                    go_ret
                    exact post_mk rfl (ex_trans hk0 (by (try show Ex _ _); repeat (first | (with_reducible exact ex_refl _) | (with_reducible assumption) | (with_reducible refine ex_drewL ?_) | (with_reducible refine ex_appR ?_ _) | (with_reducible refine ex_wx ?_ _) | (with_reducible refine ex_drew ?_) | (with_reducible refine ex_alloc ?_ _))))
                  by_cases v3 : 65536 < nd
                  · have ho : ov = false := HN.out fun hC => by have := hC.2.2.2.2.1.2.2; omega
                    have v1' : decide ((8 : Int) < ne) = false := decide_eq_false (by omega)
                    have v2' : decide ((5 : Int) < nm) = false := decide_eq_false (by omega)
                    have v3' : decide ((65536 : Int) < nd) = true := decide_eq_true (by omega)
                    subst ho
                    go_wp2
                    go_ret
                    exact post_mk rfl (ex_trans hk0 (by (try show Ex _ _); repeat (first | (with_reducible exact ex_refl _) | (with_reducible assumption) | (with_reducible refine ex_drewL ?_) | (with_reducible refine ex_appR ?_ _) | (with_reducible refine ex_wx ?_ _) | (with_reducible refine ex_drew ?_) | (with_reducible refine ex_alloc ?_ _))))
                  have v1' : decide ((8 : Int) < ne) = false := decide_eq_false (by omega)
                  have v2' : decide ((5 : Int) < nm) = false := decide_eq_false (by omega)
                  have v3' : decide ((65536 : Int) < nd) = false := decide_eq_false (by omega)
                  have hC5 : Hid (ne ≤ 8 ∧ nm ≤ 5 ∧ nd ≤ 65536) := Lib.hid ⟨by omega, by omega, by omega⟩
                  have hm3 : nm ≤ 5 := by omega
                  have hn3 : ne ≤ 8 := by omega
                  clear v1 v2 v3 s4
                  go_wp2
                  obtain ⟨A2, hA2⟩ : ∃ A2, (wx A X9).alloc (.cells #[L pi, L pt] 35) = A2 := ⟨_, rfl⟩
                  rw [hA2]
                  obtain ⟨b5, hb5⟩ : ∃ b5, A.heap.size + X9.blocks.length = b5 := ⟨_, rfl⟩
                  have hq5 : A2.heap[b5]? = some (.cells #[L pi, L pt] 35 (0, 0)) := by rw [← hA2]; exact alloc_at (by simp [go_sem]; omega)
                  have hz5 : b5 < A2.heap.size := (Array.getElem?_eq_some_iff.1 hq5).1
                  have hK2 : Ex A A2 := by rw [← hA2]; exact ex_alloc ⟨X9, rfl⟩ _
                  have hq2 := ex_block hK2 hq0.out
                  have hz2 : w.heap.size < A2.heap.size := Nat.lt_of_lt_of_le hz0 (ex_size hK2)
                  have hkA := ex_trans hk0 hK2
                  rw [hb5]
                  clear hA2 hb5 r0 r1 r2 r3 r4 r5 r6 r7 r8 r9 r10 n4 hk0 hK2
                  obtain ⟨o1, _⟩ := block_cell (o := 1) hq5 rfl
                  obtain ⟨r3, _⟩ := block_cell (o := 3) hq2 rfl
                  obtain ⟨r6, _⟩ := block_cell (o := 6) hq2 rfl
                  simp only [List.getElem_toArray, List.getElem_cons_zero, List.getElem_cons_succ] at o1 r3 r6
                  clear hq2 hq5 hq0
                  go_loopw [109] (fun i wr => ∃ k : Nat, k ≤ nm ∧ i = I k ∧ Hid (∀ i, i < k → 1 ≤ Mb i ∧ Mb i ≤ 255) ∧ Ex A2 wr) (fun i _ => nm - (intOf i).toNat)
                  case atStart => exact ⟨0, by omega, rfl, Lib.hid (fun i h => absurd h (by omega)), (by (try show Ex _ _); repeat (first | (with_reducible exact ex_refl _) | (with_reducible assumption) | (with_reducible refine ex_drewL ?_) | (with_reducible refine ex_appR ?_ _) | (with_reducible refine ex_wx ?_ _) | (with_reducible refine ex_drew ?_) | (with_reducible refine ex_alloc ?_ _)))⟩
                  case round =>
                    obtain ⟨q, hq, rfl, HQ, Y9, rfl⟩ := hrel
                    by_cases hlt : q < nm
                    · obtain ⟨g, off, rfl, hg, hcl⟩ := HM.out _ (ex_trans hkA ⟨Y9, rfl⟩) q hlt
                      have hNb : Hid (¬ (1 ≤ Mb q ∧ Mb q ≤ 255) → ov = false) := Lib.hid fun h => HN.out fun hC => h (hC.2.2.2.2.2.1 q hlt)
                      clear HM
                      rcases (show Mb q < 1 ∨ (¬ Mb q < 1 ∧ 255 < Mb q) ∨ (¬ Mb q < 1 ∧ ¬ 255 < Mb q) by omega) with j1 | ⟨j1, j2⟩ | ⟨j1, j2⟩
                      · have ho : ov = false := hNb.out (by omega)
                        subst ho
                        go_wp2
                        go_ret
                        exact post_mk rfl (ex_trans hkA (by (try show Ex _ _); repeat (first | (with_reducible exact ex_refl _) | (with_reducible assumption) | (with_reducible refine ex_drewL ?_) | (with_reducible refine ex_appR ?_ _) | (with_reducible refine ex_wx ?_ _) | (with_reducible refine ex_drew ?_) | (with_reducible refine ex_alloc ?_ _))))
                      · have ho : ov = false := hNb.out (by omega)
                        subst ho
                        go_wp2
                        go_ret
                        exact post_mk rfl (ex_trans hkA (by (try show Ex _ _); repeat (first | (with_reducible exact ex_refl _) | (with_reducible assumption) | (with_reducible refine ex_drewL ?_) | (with_reducible refine ex_appR ?_ _) | (with_reducible refine ex_wx ?_ _) | (with_reducible refine ex_drew ?_) | (with_reducible refine ex_alloc ?_ _))))
                      · have hB : Hid (1 ≤ Mb q ∧ Mb q ≤ 255) := Lib.hid (by omega)
                        go_wp2
                        refine ⟨⟨q + 1, by omega, by go_num, Lib.hid fun i hi => ?_, (by (try show Ex _ _); repeat (first | (with_reducible exact ex_refl _) | (with_reducible assumption) | (with_reducible refine ex_drewL ?_) | (with_reducible refine ex_appR ?_ _) | (with_reducible refine ex_wx ?_ _) | (with_reducible refine ex_drew ?_) | (with_reducible refine ex_alloc ?_ _)))⟩, by simp [intOf]; omega⟩
                        rcases Nat.lt_or_ge i q with h9 | h9
                        · exact HQ.out i h9
                        · obtain rfl : i = q := by omega
                          exact hB.out
                    · obtain rfl : q = nm := by omega
                      clear hlt hq HM
                      go_wp2
                      go_loopw [8, 125] (fun l i wr => ∃ k : Nat, k ≤ ne ∧ i = I k ∧ l = L (Pv k) ∧ Hid (∀ i, i < k → wellE (E i) = true ∧ (Pv i).toNat ≤ (E i).1.toNat ∧ (E i).1.toNat ≤ tm.toNat) ∧ Ex A2 wr) (fun _ i _ => ne - (intOf i).toNat)
                      case atStart => exact ⟨0, by omega, rfl, by rw [HP0.out], Lib.hid (fun i h => absurd h (by omega)), (by (try show Ex _ _); repeat (first | (with_reducible exact ex_refl _) | (with_reducible assumption) | (with_reducible refine ex_drewL ?_) | (with_reducible refine ex_appR ?_ _) | (with_reducible refine ex_wx ?_ _) | (with_reducible refine ex_drew ?_) | (with_reducible refine ex_alloc ?_ _)))⟩
                      case round =>
                        obtain ⟨k, hk, rfl, rfl, HR, Z9, rfl⟩ := hrel
                        by_cases hlt : k < ne
                        · obtain ⟨g, off, da3, dc3, rfl, hg, d0, d1, d2, _⟩ := HE.out _ (ex_trans hkA ⟨Z9, rfl⟩) k hlt
                          have hw := HW.out k
                          have hP := HP1.out k
                          have hNb : Hid (¬ (wellE (E k) = true ∧ (Pv k).toNat ≤ (E k).1.toNat ∧ (E k).1.toNat ≤ tm.toNat) → ov = false) := Lib.hid fun h => HN.out fun hC => h (hC.2.2.2.2.2.2 k hlt)
                          have hBe : Hid (∀ i, i < k + 1 → i < k ∨ i = k) := Lib.hid fun i h => by omega
                          have HP' : Hid (L (E k).1 = L (Pv (k + 1))) := Lib.hid (by rw [hP])
                          clear HE HP0 HP1 HW hP
                          rw [hw] at hNb
                          have hw := Lib.hid hw
                          generalize hEk : E k = e at *
                          generalize hPk : Pv k = lk at *
                          replace hEk := Lib.hid hEk
                          replace hPk := Lib.hid hPk
                          obtain ⟨et, ek, ed⟩ := e
                          simp only at d0 d1 d2 hNb hw HP'
                          have HRE := Lib.hid (fun w' => rightEntry_any et ek da3 ed.length dc3 w')
                          have hwl : Hid (wellE (et, ek, ed) = wellN et ek ed.length) := Lib.hid rfl
                          clear hw
                          generalize wellN et ek ed.length = wb at *
                          generalize ed.length = el at *
                          have ltm : ln tm = (tm.toNat : Int) := rfl
                          have let' : ln et = (et.toNat : Int) := rfl
                          have llk : ln lk = (lk.toNat : Int) := rfl
                          cases wb with
                          | false =>
                            have ho : ov = false := hNb.out (fun h => by cases h.1)
                            subst ho
                            clear ltm let' llk
                            go_wp2_with (first | (go_at_call 40; (with_reducible refine (HRE.out _).mono ?_); rintro e w2 ⟨rfl, X, rfl⟩))
                            go_ret
                            exact post_mk rfl (ex_trans hkA (by (try show Ex _ _); repeat (first | (with_reducible exact ex_refl _) | (with_reducible assumption) | (with_reducible refine ex_drewL ?_) | (with_reducible refine ex_appR ?_ _) | (with_reducible refine ex_wx ?_ _) | (with_reducible refine ex_drew ?_) | (with_reducible refine ex_alloc ?_ _))))
                          | true =>
                            rcases (show ln et < ln lk ∨ (¬ ln et < ln lk ∧ ln tm < ln et) ∨ (¬ ln et < ln lk ∧ ¬ ln tm < ln et) by omega) with j1 | ⟨j1, j2⟩ | ⟨j1, j2⟩
                            · have ho : ov = false := hNb.out (fun h => by have := h.2.1; omega)
                              subst ho
                              have j1' : decide (ln et < ln lk) = true := decide_eq_true j1
                              clear ltm let' llk
                              go_wp2_with (first | (go_at_call 40; (with_reducible refine (HRE.out _).mono ?_); rintro e w2 ⟨rfl, X, rfl⟩))
                              go_ret
                              exact post_mk rfl (ex_trans hkA (by (try show Ex _ _); repeat (first | (with_reducible exact ex_refl _) | (with_reducible assumption) | (with_reducible refine ex_drewL ?_) | (with_reducible refine ex_appR ?_ _) | (with_reducible refine ex_wx ?_ _) | (with_reducible refine ex_drew ?_) | (with_reducible refine ex_alloc ?_ _))))
                            · have ho : ov = false := hNb.out (fun h => by have := h.2.2; omega)
                              subst ho
                              have j1' : decide (ln et < ln lk) = false := decide_eq_false j1
                              have j2' : decide (ln tm < ln et) = true := decide_eq_true j2
                              clear ltm let' llk
                              go_wp2_with (first | (go_at_call 40; (with_reducible refine (HRE.out _).mono ?_); rintro e w2 ⟨rfl, X, rfl⟩))
                              go_ret
                              exact post_mk rfl (ex_trans hkA (by (try show Ex _ _); repeat (first | (with_reducible exact ex_refl _) | (with_reducible assumption) | (with_reducible refine ex_drewL ?_) | (with_reducible refine ex_appR ?_ _) | (with_reducible refine ex_wx ?_ _) | (with_reducible refine ex_drew ?_) | (with_reducible refine ex_alloc ?_ _))))
                            · have hB : Hid (lk.toNat ≤ et.toNat ∧ et.toNat ≤ tm.toNat) := Lib.hid (by omega)
                              have j1' : decide (ln et < ln lk) = false := decide_eq_false j1
                              have j2' : decide (ln tm < ln et) = false := decide_eq_false j2
                              clear ltm let' llk hNb HN HY
                              go_wp2_with (first | (go_at_call 40; (with_reducible refine (HRE.out _).mono ?_); rintro e w2 ⟨rfl, X, rfl⟩))
                              refine ⟨⟨k + 1, by omega, by go_num, HP'.out, Lib.hid fun i hi => ?_, (by (try show Ex _ _); repeat (first | (with_reducible exact ex_refl _) | (with_reducible assumption) | (with_reducible refine ex_drewL ?_) | (with_reducible refine ex_appR ?_ _) | (with_reducible refine ex_wx ?_ _) | (with_reducible refine ex_drew ?_) | (with_reducible refine ex_alloc ?_ _)))⟩, by simp [intOf]; omega⟩
                              rcases hBe.out i hi with h9 | rfl
                              · exact HR.out i h9
                              · rw [hEk.out, hPk.out]
                                exact ⟨hwl.out, hB.out.1, hB.out.2⟩
                        · obtain rfl : k = ne := by omega
                          have ho : ov = true := HY.out ⟨hC1.out, hC2.out, hC3.out, hC4'.out, hC5.out, HQ.out, HR.out⟩
                          subst ho
                          clear HE HP0 HP1 HW HN HY hk
                          go_wp2
                          go_ret
                          exact post_mk rfl (ex_trans hkA (by (try show Ex _ _); repeat (first | (with_reducible exact ex_refl _) | (with_reducible assumption) | (with_reducible refine ex_drewL ?_) | (with_reducible refine ex_appR ?_ _) | (with_reducible refine ex_wx ?_ _) | (with_reducible refine ex_drew ?_) | (with_reducible refine ex_alloc ?_ _))))
        · have ho : ov = false := HN.out fun hC => hpp hC.2.2.2.1.1
          have hways : ((ln pi == 0) = true ∧ (ln pt == 0) = false) ∨ ((ln pi == 0) = false ∧ (ln pt == 0) = true) := by
            rw [hp0, hp1]
            by_cases h8 : pi = 0 <;> by_cases h9 : pt = 0 <;> simp_all
          clear hp0 hp1 hpp
          subst ho
          rcases hways with ⟨p5, q5⟩ | ⟨p5, q5⟩
          · go_wp2
            go_ret
            exact post_mk rfl (ex_trans hk0 (by (try show Ex _ _); repeat (first | (with_reducible exact ex_refl _) | (with_reducible assumption) | (with_reducible refine ex_drewL ?_) | (with_reducible refine ex_appR ?_ _) | (with_reducible refine ex_wx ?_ _) | (with_reducible refine ex_drew ?_) | (with_reducible refine ex_alloc ?_ _))))
          · go_wp2
            go_ret
            exact post_mk rfl (ex_trans hk0 (by (try show Ex _ _); repeat (first | (with_reducible exact ex_refl _) | (with_reducible assumption) | (with_reducible refine ex_drewL ?_) | (with_reducible refine ex_appR ?_ _) | (with_reducible refine ex_wx ?_ _) | (with_reducible refine ex_drew ?_) | (with_reducible refine ex_alloc ?_ _))))
end Go.Proofs.YtpcfkjeikhehaaaDoor
