import Derived.Test.YtbobamifpjlmiaaDoorMDTopS

/- The document's Verify: what it computes. -/
set_option linter.unusedSimpArgs false
set_option linter.unusedVariables false
set_option maxRecDepth 20000
namespace Go.Proofs.YtbobamifpjlmiaaDoor
open Go.RowKit
/-- Pairs, or none. -/
def PostVd (o : Option (List Pr)) (W : World) (e : Ending) (w' : World) : Prop := ∃ v, e = .returned (.tuple #[v, .bool o.isSome]) ∧ OwnP w' W.heap.size v (o.getD []) ∧ ∃ X, w' = wx W X
def PostTdN (W : World) (e : Ending) (w' : World) : Prop := ∃ d : Dg, e = .returned (.tuple #[.agg (rowB 32 (dF d)), .bool false]) ∧ ∃ X, w' = wx W X
def PostTdS (d : Dg) (W : World) (e : Ending) (w' : World) : Prop := e = .returned (.tuple #[.agg (rowB 32 (dF d)), .bool true]) ∧ ∃ X, w' = wx W X
theorem postTd_none {W w' : World} {e : Ending} (h : PostTd none W e w') : PostTdN W e w' := by
  obtain ⟨d, h1, _, h2⟩ := h
  exact ⟨d, h1, h2⟩
theorem postTd_some {W w' : World} {e : Ending} {d : Dg} (h : PostTd (some d) W e w') : PostTdS d W e w' := by
  obtain ⟨d2, h1, h2, h3⟩ := h
  obtain rfl := h2 _ rfl
  exact ⟨h1, h3⟩
abbrev wD (w : World) (x : Dg) (lo hi : ByteArray) (op : Bool) (t f : Int) (pa qa : Option Addr) (L L2 pc qc : Nat) : World := ((w.alloc (.cells (rowB 32 (dF x)) 26)).alloc (.cells #[.string lo, .string hi, .bool op] 55)).alloc (.cells #[I t, I f, .slice pa L pc, .slice qa L2 qc] 65)
theorem wD_facts {w wr : World} {x : Dg} {lo hi : ByteArray} {op : Bool} {t f : Int} {pa qa : Option Addr} {L L2 pc qc : Nat} (k : Ex (wD w x lo hi op t f pa qa L L2 pc qc) wr) :
    wr.cell? ⟨w.heap.size + 1, 0, none⟩ = some (.string lo) ∧ wr.cell? ⟨w.heap.size + 1, 1, none⟩ = some (.string hi) ∧ wr.cell? ⟨w.heap.size + 1, 2, none⟩ = some (.bool op) ∧
    wr.cell? ⟨w.heap.size + 1 + 1, 0, none⟩ = some (I t) ∧ wr.cell? ⟨w.heap.size + 1 + 1, 1, none⟩ = some (I f) ∧ wr.cell? ⟨w.heap.size + 1 + 1, 2, none⟩ = some (.slice pa L pc) ∧ w.heap.size + 1 + 1 < wr.heap.size := by
  have e1 : (w.alloc (.cells (rowB 32 (dF x)) 26)).heap.size = w.heap.size + 1 := by simp [go_sem]
  have k1 : Ex ((w.alloc (.cells (rowB 32 (dF x)) 26)).alloc (.cells #[.string lo, .string hi, .bool op] 55)) wr := ex_trans (by (try show Ex _ _); repeat (first | (with_reducible exact ex_refl _) | (with_reducible assumption) | (with_reducible refine ex_drewL ?_) | (with_reducible refine ex_appR ?_ _) | (with_reducible refine ex_wx ?_ _) | (with_reducible refine ex_drew ?_) | (with_reducible refine ex_alloc ?_ _))) k
  have hb := ex_block k1 (heap_alloc_new _ _)
  rw [e1] at hb
  have hb2 := ex_block k (heap_alloc_new _ _)
  have e2 : ((w.alloc (.cells (rowB 32 (dF x)) 26)).alloc (.cells #[.string lo, .string hi, .bool op] 55)).heap.size = w.heap.size + 1 + 1 := by simp [go_sem]
  rw [e2] at hb2
  exact ⟨(block_cell hb rfl).1, (block_cell hb rfl).1, (block_cell hb rfl).1, (block_cell hb2 rfl).1, (block_cell hb2 rfl).1, (block_cell hb2 rfl).1, (Array.getElem?_eq_some_iff.1 hb2).1⟩
set_option maxHeartbeats 8000000 in
theorem docver_any (root : Dg) (r : Rg) (t f : Int) (ps : List Pr) (qs : List Dg) (pa qa : Option Addr) (pc qc : Nat) (w : World) (hpc : ps.length ≤ pc) (hpm : pc ≤ maxLen) (hqc : qs.length ≤ qc) (hqm : qc ≤ maxLen) (hps : SlP w pa ps) (hqs : SlD w qa qs) :
    Calls Tryd.prog 50 #[.agg (rowB 32 (dF root)), .agg (RC r), .agg #[I t, I f, .slice pa ps.length pc, .slice qa qs.length qc]] w (PostVd (verS root r t f ps qs) w) := by
  have HT0 : Hid (∀ w', Ex w w' → Calls Tryd.prog 48 #[.agg #[I t, I f, .slice pa ps.length pc, .slice qa qs.length qc]] w' (PostTd (topS t f ps qs) w')) := Lib.hid fun w' k => doctopS_any t f ps qs pa qa pc qc w' hpc hpm hqc hqm (hps.ex k) (hqs.ex k)
  obtain ⟨lo, hi, op⟩ := r
  cases ho : topS t f ps qs with
  | none =>
    have hx : verS root ⟨lo, hi, op⟩ t f ps qs = none := by unfold verS; rw [ho, if_neg (by simp)]
    rw [hx]
    rw [ho] at HT0
    have HT := Lib.hid (fun w' k => (HT0.out w' k).mono fun e w2 => postTd_none)
    generalize ps.length = L at *
    generalize qs.length = L2 at *
    unfold RC
    clear hx ho hps hqs HT0
    go_enter Tryd.func50, Tryd.ntmps50
    go_wp2_with (go_at_call 48; (with_reducible refine (HT.out _ (by (try show Ex _ _); repeat (first | (with_reducible exact ex_refl _) | (with_reducible assumption) | (with_reducible refine ex_drewL ?_) | (with_reducible refine ex_appR ?_ _) | (with_reducible refine ex_wx ?_ _) | (with_reducible refine ex_drew ?_) | (with_reducible refine ex_alloc ?_ _)))).mono ?_); rintro e w2 ⟨d1, rfl, X, rfl⟩)
    go_ret2
    exact ⟨_, rfl, ownp_nil _ _, (by (try show Ex _ _); repeat (first | (with_reducible exact ex_refl _) | (with_reducible assumption) | (with_reducible refine ex_drewL ?_) | (with_reducible refine ex_appR ?_ _) | (with_reducible refine ex_wx ?_ _) | (with_reducible refine ex_drew ?_) | (with_reducible refine ex_alloc ?_ _)))⟩
  | some x =>
    rw [ho] at HT0
    have HT := Lib.hid (fun w' k => (HT0.out w' k).mono fun e w2 => postTd_some)
    have hok : okS t f ps := by
      by_cases h : okS t f ps
      · exact h
      · unfold topS at ho; rw [if_neg h] at ho; cases ho
    have hE := eqD x root
    by_cases hxr : x = root
    · rw [decide_eq_true hxr] at hE
      subst hxr
      have hok2 := hok
      obtain ⟨o1, o2, o3, o4, o5, o6⟩ := hok2
      have hl0 : t ≠ 0 → ps.length ≠ 0 := by
        intro h0 h
        unfold topS at ho
        rw [if_pos hok, if_neg h0, if_pos h] at ho
        cases ho
      have hx : verS x ⟨lo, hi, op⟩ t f ps qs = if t = 0 then some [] else if badV ⟨lo, hi, op⟩ t f ps then none else some (ps.filter fun p => inP ⟨lo, hi, op⟩ p.1) := by unfold verS; rw [ho, if_pos rfl]
      obtain ⟨o, hoo⟩ : ∃ o, verS x ⟨lo, hi, op⟩ t f ps qs = o := ⟨_, rfl⟩
      obtain ⟨C0, hC0⟩ : ∃ C0, (!ltS (keyAt ps 0) lo && decide (0 < f)) = C0 := ⟨_, rfl⟩
      obtain ⟨C1, hC1⟩ : ∃ C1, ((ltS (keyAt ps (ps.length - 1)) lo || inP ⟨lo, hi, op⟩ (keyAt ps (ps.length - 1))) && decide (f + ps.length < t)) = C1 := ⟨_, rfl⟩
      rw [hoo] at hx ⊢
      unfold badV at hx
      simp only [] at hx
      rw [hC0, hC1] at hx
      have HBad : Hid (t ≠ 0 → C0 = true ∨ C1 = true → o = none) := Lib.hid fun h0 h => by
        rw [hx, if_neg h0, if_pos (by rcases h with h | h <;> simp [h])]
      have HGood : Hid ((0 < ps.length → C0 = false) → (0 < ps.length → C1 = false) → o = some (ps.filter fun p => inP ⟨lo, hi, op⟩ p.1)) := Lib.hid fun h1 h2 => by
        by_cases h0 : t = 0
        · rw [hx, if_pos h0, List.eq_nil_of_length_eq_zero (show ps.length = 0 by omega)]; rfl
        · have := hl0 h0
          rw [hx, if_neg h0, if_neg (by rw [h1 (by omega), h2 (by omega)]; simp)]
      have HK0 : Hid (∀ k, k = 0 → (!ltS (prAt ps k).1 lo && decide (0 < f)) = C0) := Lib.hid fun k hk => by rw [hk]; exact hC0
      have HK1 : Hid (∀ k, k + 1 = ps.length → ((ltS (prAt ps k).1 lo || inP ⟨lo, hi, op⟩ (prAt ps k).1) && decide (f + ps.length < t)) = C1) := Lib.hid fun k hk => by
        have := hC1
        unfold keyAt at this
        rwa [show ps.length - 1 = k by omega] at this
      have HT1 : Hid (0 < ps.length → t ≠ 0) := Lib.hid fun h h0 => by omega
      have HPS := Lib.hid hps
      obtain ⟨L, hL⟩ : ∃ L, ps.length = L := ⟨_, rfl⟩
      have HM := Lib.hid hL
      rw [hL] at HT hpc HGood HK1 HT1 o4 o5 ⊢
      obtain ⟨b2, hb2⟩ : ∃ b2, decide (0 < f) = b2 := ⟨_, rfl⟩
      obtain ⟨b5, w5⟩ : ∃ b5, decide (f + (L : Int) < t) = b5 := ⟨_, rfl⟩
      rw [hb2] at HK0
      rw [w5] at HK1
      generalize qs.length = L2 at *
      have L200 : L ≤ 200 := by omega
      have f200 : f ≤ 200 := by omega
      have w6 := w5
      clear hx hoo hC0 hC1 ho hps hqs hok o6 hL hl0 HT0
      unfold RC
      go_enter Tryd.func50, Tryd.ntmps50
      go_wp2_with (go_at_call 48; (with_reducible refine (HT.out _ (by (try show Ex _ _); repeat (first | (with_reducible exact ex_refl _) | (with_reducible assumption) | (with_reducible refine ex_drewL ?_) | (with_reducible refine ex_appR ?_ _) | (with_reducible refine ex_wx ?_ _) | (with_reducible refine ex_drew ?_) | (with_reducible refine ex_alloc ?_ _)))).mono ?_); rintro e w2 ⟨rfl, X, rfl⟩)
      go_loopw [10, 11] (fun v i wr => ∃ k : Nat, k ≤ L ∧ i = I k ∧ Hid (OwnP wr (wD w x lo hi op t f pa qa L L2 pc qc).heap.size v ((ps.take k).filter fun p => inP ⟨lo, hi, op⟩ p.1)) ∧ Hid (0 < k → C0 = false) ∧ Hid (k = L → C1 = false ∨ L = 0) ∧ Ex (wD w x lo hi op t f pa qa L L2 pc qc) wr) (fun _ i _ => L - (intOf i).toNat)
      case atStart => exact ⟨0, by omega, rfl, Lib.hid (ownp_nil _ _), Lib.hid (fun h => absurd h (by omega)), Lib.hid (fun h => .inr h.symm), (by (try show Ex _ _); repeat (first | (with_reducible exact ex_refl _) | (with_reducible assumption) | (with_reducible refine ex_drewL ?_) | (with_reducible refine ex_appR ?_ _) | (with_reducible refine ex_wx ?_ _) | (with_reducible refine ex_drew ?_) | (with_reducible refine ex_alloc ?_ _)))⟩
      case round =>
        obtain ⟨k, hk, rfl, hown, HC0, HC1, kr⟩ := hrel
        have KW := kr
        have Kw : Ex w wr := ex_trans (by (try show Ex _ _); repeat (first | (with_reducible exact ex_refl _) | (with_reducible assumption) | (with_reducible refine ex_drewL ?_) | (with_reducible refine ex_appR ?_ _) | (with_reducible refine ex_wx ?_ _) | (with_reducible refine ex_drew ?_) | (with_reducible refine ex_alloc ?_ _))) kr
        obtain ⟨s0, s1, s2, s3, s4, s5, s6⟩ := wD_facts kr
        by_cases hlt : k < L
        · obtain ⟨g, off, rfl, hg, t1, t2, t3⟩ := (HPS.out.ex Kw).row (i := k) (by have := HM.out; omega)
          have hc0' := HK0.out k
          have hm0' := HK1.out k
          have HBad1 : Hid (C0 = true ∨ C1 = true → o = none) := Lib.hid (HBad.out (HT1.out (by omega)))
          have HF := Lib.hid (filter_snoc (fun p => inP ⟨lo, hi, op⟩ p.1) ps k (by have := HM.out; omega))
          have HIK := Lib.hid (fun w' => refin_any ⟨lo, hi, op⟩ (prAt ps k).1 w')
          have HLN : Hid (((ps.take k).filter fun p => inP ⟨lo, hi, op⟩ p.1).length ≤ 300) := Lib.hid (by
            have h1 := List.length_filter_le (fun p : Pr => inP ⟨lo, hi, op⟩ p.1) (ps.take k)
            have h2 : (ps.take k).length ≤ k := List.length_take_le _ _
            omega)
          have hsl := Lib.hid (fun (w0 : World) w' (gg : Nat) (k' : Ex (w0.alloc (.cells (PC (prAt ps k)) 80)) w') (hgg : gg = w0.heap.size) => slp_one (prAt ps k) k' hgg)
          unfold RC at HIK
          unfold PC at hsl t1
          simp only at HIK
          clear HBad kr HK0 HK1
          have HBad := HBad1
          clear HBad1
          generalize prAt ps k = pk at t1 t2 t3 HF HIK hsl hc0' hm0'
          obtain ⟨sk, tk⟩ := pk
          simp only at t1 t2 t3 HF HIK hsl hc0' hm0'
          unfold ltS at hc0' hm0'
          obtain ⟨b3, hb3⟩ : ∃ b, Op.bytesLess sk.toList lo.toList = b := ⟨_, rfl⟩
          rw [hb3] at hc0' hm0'
          generalize inP ⟨lo, hi, op⟩ sk = b4 at HIK HF hm0'
          have HZ : Hid (k = 0 → C0 = (!b3 && b2)) := Lib.hid fun h => (hc0' h).symm
          have HM2 : Hid (k + 1 = L → C1 = ((b3 || b4) && b5)) := Lib.hid fun h => (hm0' h).symm
          clear hc0' hm0'
          clear hk
          by_cases hk0 : k = 0
          · subst hk0
            have hz := HZ.out rfl
            rw [Nat.zero_mul, Nat.add_zero] at t1 t2 t3
            cases hq3 : b3 with
            | false =>
              rw [hq3] at hb3 hz HM2
              clear hq3
              cases hq2 : b2 with
              | true =>
                rw [hq2] at hb2 hz
                obtain rfl := HBad.out (.inl (by rw [hz]; rfl))
                clear hz
                go_wp2_with (go_at_call 41; (with_reducible refine (HIK.out _).mono ?_); rintro e w2 ⟨rfl, X3, rfl⟩)
                go_ret2
                exact ⟨_, rfl, ownp_nil _ _, (by (try show Ex _ _); repeat (first | (with_reducible exact ex_refl _) | (with_reducible assumption) | (with_reducible refine ex_drewL ?_) | (with_reducible refine ex_appR ?_ _) | (with_reducible refine ex_wx ?_ _) | (with_reducible refine ex_drew ?_) | (with_reducible refine ex_alloc ?_ _)))⟩
              | false =>
                rw [hq2] at hb2 hz
                have hc0 : C0 = false := by rw [hz]; rfl
                clear hz hq2
                have HC0n := Lib.hid hc0
                clear hc0 HZ
                by_cases hkm : L = 1
                · subst hkm
                  have w6 : decide (f + ((0 : Int) + 1) < t) = b5 := w5
                  have w7 : decide (f + 1 < t) = b5 := w5
                  have hcm1 := HM2.out rfl
                  clear HM2
                  cases hq4 : b4 with
                  | true =>
                    rw [hq4] at HIK HF hcm1
                    cases hq5 : b5 with
                    | true =>
                      rw [hq5] at w5 w6 w7 hcm1
                      obtain rfl := HBad.out (.inr (by rw [hcm1]; rfl))
                      clear hcm1
                      go_wp2_with (go_at_call 41; (with_reducible refine (HIK.out _).mono ?_); rintro e w2 ⟨rfl, X3, rfl⟩)
                      go_ret2
                      exact ⟨_, rfl, ownp_nil _ _, (by (try show Ex _ _); repeat (first | (with_reducible exact ex_refl _) | (with_reducible assumption) | (with_reducible refine ex_drewL ?_) | (with_reducible refine ex_appR ?_ _) | (with_reducible refine ex_wx ?_ _) | (with_reducible refine ex_drew ?_) | (with_reducible refine ex_alloc ?_ _)))⟩
                    | false =>
                      rw [hq5] at w5 w6 w7 hcm1
                      have HC1n : Hid (C1 = false) := Lib.hid (by rw [hcm1]; simp)
                      clear hcm1
                      simp only [if_true] at HF
                      go_wp2_with (first | (go_at_call 41; (with_reducible refine (HIK.out _).mono ?_); rintro e w2 ⟨rfl, X3, rfl⟩) | (at_builtin; refine wpAppP (r := [(sk, tk)]) _ _ rfl rfl (hown.out.ex (by (try show Ex _ _); repeat (first | (with_reducible exact ex_refl _) | (with_reducible assumption) | (with_reducible refine ex_drewL ?_) | (with_reducible refine ex_appR ?_ _) | (with_reducible refine ex_wx ?_ _) | (with_reducible refine ex_drew ?_) | (with_reducible refine ex_alloc ?_ _)))) rfl rfl rfl (hsl.out _ _ _ (by (try show Ex _ _); repeat (first | (with_reducible exact ex_refl _) | (with_reducible assumption) | (with_reducible refine ex_drewL ?_) | (with_reducible refine ex_appR ?_ _) | (with_reducible refine ex_wx ?_ _) | (with_reducible refine ex_drew ?_) | (with_reducible refine ex_alloc ?_ _))) (by simp [go_sem])) (by have := HLN.out; simp <;> omega) (by have := ex_size KW; simp [go_sem] at this ⊢; omega) (fun v1 w1 hown1 hbe => ?_)))
                      refine ⟨⟨0 + 1, by omega, by go_num, Lib.hid (by rw [HF.out]; exact hown1), Lib.hid (fun _ => HC0n.out), Lib.hid (fun _ => .inl HC1n.out), ex_of_below ((ex_below (by (try show Ex _ _); repeat (first | (with_reducible exact ex_refl _) | (with_reducible assumption) | (with_reducible refine ex_drewL ?_) | (with_reducible refine ex_appR ?_ _) | (with_reducible refine ex_wx ?_ _) | (with_reducible refine ex_drew ?_) | (with_reducible refine ex_alloc ?_ _)))).trans hbe)⟩, by simp [intOf] <;> omega⟩
                  | false =>
                    rw [hq4] at HIK HF hcm1
                    have HC1n : Hid (C1 = false) := Lib.hid (by rw [hcm1]; simp)
                    clear hcm1
                    simp only [Bool.false_eq_true, if_false, List.append_nil] at HF
                    go_wp2_with (go_at_call 41; (with_reducible refine (HIK.out _).mono ?_); rintro e w2 ⟨rfl, X3, rfl⟩)
                    refine ⟨⟨0 + 1, by omega, by go_num, Lib.hid (by rw [HF.out]; exact hown.out.ex (by (try show Ex _ _); repeat (first | (with_reducible exact ex_refl _) | (with_reducible assumption) | (with_reducible refine ex_drewL ?_) | (with_reducible refine ex_appR ?_ _) | (with_reducible refine ex_wx ?_ _) | (with_reducible refine ex_drew ?_) | (with_reducible refine ex_alloc ?_ _)))), Lib.hid (fun _ => HC0n.out), Lib.hid (fun _ => .inl HC1n.out), (by (try show Ex _ _); repeat (first | (with_reducible exact ex_refl _) | (with_reducible assumption) | (with_reducible refine ex_drewL ?_) | (with_reducible refine ex_appR ?_ _) | (with_reducible refine ex_wx ?_ _) | (with_reducible refine ex_drew ?_) | (with_reducible refine ex_alloc ?_ _)))⟩, by simp [intOf] <;> omega⟩
                · have zm : ((0 : Int) == (L : Int) - 1) = false := beq_eq_false_iff_ne.2 (by omega)
                  have zn : (0 == L - 1) = false := beq_eq_false_iff_ne.2 (by omega)
                  clear HM2
                  cases hq4 : b4 with
                  | true =>
                    rw [hq4] at HIK HF
                    simp only [if_true] at HF
                    go_wp2_with (first | (go_at_call 41; (with_reducible refine (HIK.out _).mono ?_); rintro e w2 ⟨rfl, X3, rfl⟩) | (at_builtin; refine wpAppP (r := [(sk, tk)]) _ _ rfl rfl (hown.out.ex (by (try show Ex _ _); repeat (first | (with_reducible exact ex_refl _) | (with_reducible assumption) | (with_reducible refine ex_drewL ?_) | (with_reducible refine ex_appR ?_ _) | (with_reducible refine ex_wx ?_ _) | (with_reducible refine ex_drew ?_) | (with_reducible refine ex_alloc ?_ _)))) rfl rfl rfl (hsl.out _ _ _ (by (try show Ex _ _); repeat (first | (with_reducible exact ex_refl _) | (with_reducible assumption) | (with_reducible refine ex_drewL ?_) | (with_reducible refine ex_appR ?_ _) | (with_reducible refine ex_wx ?_ _) | (with_reducible refine ex_drew ?_) | (with_reducible refine ex_alloc ?_ _))) (by simp [go_sem])) (by have := HLN.out; simp <;> omega) (by have := ex_size KW; simp [go_sem] at this ⊢; omega) (fun v1 w1 hown1 hbe => ?_)))
                    refine ⟨⟨0 + 1, by omega, by go_num, Lib.hid (by rw [HF.out]; exact hown1), Lib.hid (fun _ => HC0n.out), Lib.hid (fun h => absurd (show L = 1 by omega) hkm), ex_of_below ((ex_below (by (try show Ex _ _); repeat (first | (with_reducible exact ex_refl _) | (with_reducible assumption) | (with_reducible refine ex_drewL ?_) | (with_reducible refine ex_appR ?_ _) | (with_reducible refine ex_wx ?_ _) | (with_reducible refine ex_drew ?_) | (with_reducible refine ex_alloc ?_ _)))).trans hbe)⟩, by simp [intOf] <;> omega⟩
                  | false =>
                    rw [hq4] at HIK HF
                    simp only [Bool.false_eq_true, if_false, List.append_nil] at HF
                    go_wp2_with (go_at_call 41; (with_reducible refine (HIK.out _).mono ?_); rintro e w2 ⟨rfl, X3, rfl⟩)
                    refine ⟨⟨0 + 1, by omega, by go_num, Lib.hid (by rw [HF.out]; exact hown.out.ex (by (try show Ex _ _); repeat (first | (with_reducible exact ex_refl _) | (with_reducible assumption) | (with_reducible refine ex_drewL ?_) | (with_reducible refine ex_appR ?_ _) | (with_reducible refine ex_wx ?_ _) | (with_reducible refine ex_drew ?_) | (with_reducible refine ex_alloc ?_ _)))), Lib.hid (fun _ => HC0n.out), Lib.hid (fun h => absurd (show L = 1 by omega) hkm), (by (try show Ex _ _); repeat (first | (with_reducible exact ex_refl _) | (with_reducible assumption) | (with_reducible refine ex_drewL ?_) | (with_reducible refine ex_appR ?_ _) | (with_reducible refine ex_wx ?_ _) | (with_reducible refine ex_drew ?_) | (with_reducible refine ex_alloc ?_ _)))⟩, by simp [intOf] <;> omega⟩
            | true =>
              rw [hq3] at hb3 hz HM2
              have hc0 : C0 = false := by rw [hz]; rfl
              clear hz hq3
              have HC0n := Lib.hid hc0
              clear hc0 HZ
              by_cases hkm : L = 1
              · subst hkm
                have w6 : decide (f + ((0 : Int) + 1) < t) = b5 := w5
                have w7 : decide (f + 1 < t) = b5 := w5
                have hcm1 := HM2.out rfl
                clear HM2
                cases hq5 : b5 with
                | true =>
                  rw [hq5] at w5 w6 w7 hcm1
                  obtain rfl := HBad.out (.inr (by rw [hcm1]; rfl))
                  clear hcm1
                  go_wp2_with (go_at_call 41; (with_reducible refine (HIK.out _).mono ?_); rintro e w2 ⟨rfl, X3, rfl⟩)
                  go_ret2
                  exact ⟨_, rfl, ownp_nil _ _, (by (try show Ex _ _); repeat (first | (with_reducible exact ex_refl _) | (with_reducible assumption) | (with_reducible refine ex_drewL ?_) | (with_reducible refine ex_appR ?_ _) | (with_reducible refine ex_wx ?_ _) | (with_reducible refine ex_drew ?_) | (with_reducible refine ex_alloc ?_ _)))⟩
                | false =>
                  rw [hq5] at w5 w6 w7 hcm1
                  have HC1n : Hid (C1 = false) := Lib.hid (by rw [hcm1]; simp)
                  clear hcm1
                  cases hq4 : b4 with
                  | true =>
                    rw [hq4] at HIK HF
                    simp only [if_true] at HF
                    go_wp2_with (first | (go_at_call 41; (with_reducible refine (HIK.out _).mono ?_); rintro e w2 ⟨rfl, X3, rfl⟩) | (at_builtin; refine wpAppP (r := [(sk, tk)]) _ _ rfl rfl (hown.out.ex (by (try show Ex _ _); repeat (first | (with_reducible exact ex_refl _) | (with_reducible assumption) | (with_reducible refine ex_drewL ?_) | (with_reducible refine ex_appR ?_ _) | (with_reducible refine ex_wx ?_ _) | (with_reducible refine ex_drew ?_) | (with_reducible refine ex_alloc ?_ _)))) rfl rfl rfl (hsl.out _ _ _ (by (try show Ex _ _); repeat (first | (with_reducible exact ex_refl _) | (with_reducible assumption) | (with_reducible refine ex_drewL ?_) | (with_reducible refine ex_appR ?_ _) | (with_reducible refine ex_wx ?_ _) | (with_reducible refine ex_drew ?_) | (with_reducible refine ex_alloc ?_ _))) (by simp [go_sem])) (by have := HLN.out; simp <;> omega) (by have := ex_size KW; simp [go_sem] at this ⊢; omega) (fun v1 w1 hown1 hbe => ?_)))
                    refine ⟨⟨0 + 1, by omega, by go_num, Lib.hid (by rw [HF.out]; exact hown1), Lib.hid (fun _ => HC0n.out), Lib.hid (fun _ => .inl HC1n.out), ex_of_below ((ex_below (by (try show Ex _ _); repeat (first | (with_reducible exact ex_refl _) | (with_reducible assumption) | (with_reducible refine ex_drewL ?_) | (with_reducible refine ex_appR ?_ _) | (with_reducible refine ex_wx ?_ _) | (with_reducible refine ex_drew ?_) | (with_reducible refine ex_alloc ?_ _)))).trans hbe)⟩, by simp [intOf] <;> omega⟩
                  | false =>
                    rw [hq4] at HIK HF
                    simp only [Bool.false_eq_true, if_false, List.append_nil] at HF
                    go_wp2_with (go_at_call 41; (with_reducible refine (HIK.out _).mono ?_); rintro e w2 ⟨rfl, X3, rfl⟩)
                    refine ⟨⟨0 + 1, by omega, by go_num, Lib.hid (by rw [HF.out]; exact hown.out.ex (by (try show Ex _ _); repeat (first | (with_reducible exact ex_refl _) | (with_reducible assumption) | (with_reducible refine ex_drewL ?_) | (with_reducible refine ex_appR ?_ _) | (with_reducible refine ex_wx ?_ _) | (with_reducible refine ex_drew ?_) | (with_reducible refine ex_alloc ?_ _)))), Lib.hid (fun _ => HC0n.out), Lib.hid (fun _ => .inl HC1n.out), (by (try show Ex _ _); repeat (first | (with_reducible exact ex_refl _) | (with_reducible assumption) | (with_reducible refine ex_drewL ?_) | (with_reducible refine ex_appR ?_ _) | (with_reducible refine ex_wx ?_ _) | (with_reducible refine ex_drew ?_) | (with_reducible refine ex_alloc ?_ _)))⟩, by simp [intOf] <;> omega⟩
              · have zm : ((0 : Int) == (L : Int) - 1) = false := beq_eq_false_iff_ne.2 (by omega)
                have zn : (0 == L - 1) = false := beq_eq_false_iff_ne.2 (by omega)
                clear HM2
                cases hq4 : b4 with
                | true =>
                  rw [hq4] at HIK HF
                  simp only [if_true] at HF
                  go_wp2_with (first | (go_at_call 41; (with_reducible refine (HIK.out _).mono ?_); rintro e w2 ⟨rfl, X3, rfl⟩) | (at_builtin; refine wpAppP (r := [(sk, tk)]) _ _ rfl rfl (hown.out.ex (by (try show Ex _ _); repeat (first | (with_reducible exact ex_refl _) | (with_reducible assumption) | (with_reducible refine ex_drewL ?_) | (with_reducible refine ex_appR ?_ _) | (with_reducible refine ex_wx ?_ _) | (with_reducible refine ex_drew ?_) | (with_reducible refine ex_alloc ?_ _)))) rfl rfl rfl (hsl.out _ _ _ (by (try show Ex _ _); repeat (first | (with_reducible exact ex_refl _) | (with_reducible assumption) | (with_reducible refine ex_drewL ?_) | (with_reducible refine ex_appR ?_ _) | (with_reducible refine ex_wx ?_ _) | (with_reducible refine ex_drew ?_) | (with_reducible refine ex_alloc ?_ _))) (by simp [go_sem])) (by have := HLN.out; simp <;> omega) (by have := ex_size KW; simp [go_sem] at this ⊢; omega) (fun v1 w1 hown1 hbe => ?_)))
                  refine ⟨⟨0 + 1, by omega, by go_num, Lib.hid (by rw [HF.out]; exact hown1), Lib.hid (fun _ => HC0n.out), Lib.hid (fun h => absurd (show L = 1 by omega) hkm), ex_of_below ((ex_below (by (try show Ex _ _); repeat (first | (with_reducible exact ex_refl _) | (with_reducible assumption) | (with_reducible refine ex_drewL ?_) | (with_reducible refine ex_appR ?_ _) | (with_reducible refine ex_wx ?_ _) | (with_reducible refine ex_drew ?_) | (with_reducible refine ex_alloc ?_ _)))).trans hbe)⟩, by simp [intOf] <;> omega⟩
                | false =>
                  rw [hq4] at HIK HF
                  simp only [Bool.false_eq_true, if_false, List.append_nil] at HF
                  go_wp2_with (go_at_call 41; (with_reducible refine (HIK.out _).mono ?_); rintro e w2 ⟨rfl, X3, rfl⟩)
                  refine ⟨⟨0 + 1, by omega, by go_num, Lib.hid (by rw [HF.out]; exact hown.out.ex (by (try show Ex _ _); repeat (first | (with_reducible exact ex_refl _) | (with_reducible assumption) | (with_reducible refine ex_drewL ?_) | (with_reducible refine ex_appR ?_ _) | (with_reducible refine ex_wx ?_ _) | (with_reducible refine ex_drew ?_) | (with_reducible refine ex_alloc ?_ _)))), Lib.hid (fun _ => HC0n.out), Lib.hid (fun h => absurd (show L = 1 by omega) hkm), (by (try show Ex _ _); repeat (first | (with_reducible exact ex_refl _) | (with_reducible assumption) | (with_reducible refine ex_drewL ?_) | (with_reducible refine ex_appR ?_ _) | (with_reducible refine ex_wx ?_ _) | (with_reducible refine ex_drew ?_) | (with_reducible refine ex_alloc ?_ _)))⟩, by simp [intOf] <;> omega⟩
          · have z0 : ((k : Int) == 0) = false := beq_eq_false_iff_ne.2 (by omega)
            have z1 : (k == 0) = false := beq_eq_false_iff_ne.2 (by omega)
            have hc0 : C0 = false := HC0.out (by omega)
            have HC0n := Lib.hid hc0
            clear hc0 HZ
            by_cases hkm : L = (k + 1)
            · subst hkm
              have w6 : decide (f + ((k : Int) + 1) < t) = b5 := w5
              have w7 := w5
              have hcm1 := HM2.out rfl
              clear HM2
              cases hq3 : b3 with
              | true =>
                rw [hq3] at hb3 hcm1
                cases hq5 : b5 with
                | true =>
                  rw [hq5] at w5 w6 w7 hcm1
                  obtain rfl := HBad.out (.inr (by rw [hcm1]; rfl))
                  clear hcm1
                  go_wp2_with (go_at_call 41; (with_reducible refine (HIK.out _).mono ?_); rintro e w2 ⟨rfl, X3, rfl⟩)
                  go_ret2
                  exact ⟨_, rfl, ownp_nil _ _, (by (try show Ex _ _); repeat (first | (with_reducible exact ex_refl _) | (with_reducible assumption) | (with_reducible refine ex_drewL ?_) | (with_reducible refine ex_appR ?_ _) | (with_reducible refine ex_wx ?_ _) | (with_reducible refine ex_drew ?_) | (with_reducible refine ex_alloc ?_ _)))⟩
                | false =>
                  rw [hq5] at w5 w6 w7 hcm1
                  have HC1n : Hid (C1 = false) := Lib.hid (by rw [hcm1]; simp)
                  clear hcm1
                  cases hq4 : b4 with
                  | true =>
                    rw [hq4] at HIK HF
                    simp only [if_true] at HF
                    go_wp2_with (first | (go_at_call 41; (with_reducible refine (HIK.out _).mono ?_); rintro e w2 ⟨rfl, X3, rfl⟩) | (at_builtin; refine wpAppP (r := [(sk, tk)]) _ _ rfl rfl (hown.out.ex (by (try show Ex _ _); repeat (first | (with_reducible exact ex_refl _) | (with_reducible assumption) | (with_reducible refine ex_drewL ?_) | (with_reducible refine ex_appR ?_ _) | (with_reducible refine ex_wx ?_ _) | (with_reducible refine ex_drew ?_) | (with_reducible refine ex_alloc ?_ _)))) rfl rfl rfl (hsl.out _ _ _ (by (try show Ex _ _); repeat (first | (with_reducible exact ex_refl _) | (with_reducible assumption) | (with_reducible refine ex_drewL ?_) | (with_reducible refine ex_appR ?_ _) | (with_reducible refine ex_wx ?_ _) | (with_reducible refine ex_drew ?_) | (with_reducible refine ex_alloc ?_ _))) (by simp [go_sem])) (by have := HLN.out; simp <;> omega) (by have := ex_size KW; simp [go_sem] at this ⊢; omega) (fun v1 w1 hown1 hbe => ?_)))
                    refine ⟨⟨k + 1, by omega, by go_num, Lib.hid (by rw [HF.out]; exact hown1), Lib.hid (fun _ => HC0n.out), Lib.hid (fun _ => .inl HC1n.out), ex_of_below ((ex_below (by (try show Ex _ _); repeat (first | (with_reducible exact ex_refl _) | (with_reducible assumption) | (with_reducible refine ex_drewL ?_) | (with_reducible refine ex_appR ?_ _) | (with_reducible refine ex_wx ?_ _) | (with_reducible refine ex_drew ?_) | (with_reducible refine ex_alloc ?_ _)))).trans hbe)⟩, by simp [intOf] <;> omega⟩
                  | false =>
                    rw [hq4] at HIK HF
                    simp only [Bool.false_eq_true, if_false, List.append_nil] at HF
                    go_wp2_with (go_at_call 41; (with_reducible refine (HIK.out _).mono ?_); rintro e w2 ⟨rfl, X3, rfl⟩)
                    refine ⟨⟨k + 1, by omega, by go_num, Lib.hid (by rw [HF.out]; exact hown.out.ex (by (try show Ex _ _); repeat (first | (with_reducible exact ex_refl _) | (with_reducible assumption) | (with_reducible refine ex_drewL ?_) | (with_reducible refine ex_appR ?_ _) | (with_reducible refine ex_wx ?_ _) | (with_reducible refine ex_drew ?_) | (with_reducible refine ex_alloc ?_ _)))), Lib.hid (fun _ => HC0n.out), Lib.hid (fun _ => .inl HC1n.out), (by (try show Ex _ _); repeat (first | (with_reducible exact ex_refl _) | (with_reducible assumption) | (with_reducible refine ex_drewL ?_) | (with_reducible refine ex_appR ?_ _) | (with_reducible refine ex_wx ?_ _) | (with_reducible refine ex_drew ?_) | (with_reducible refine ex_alloc ?_ _)))⟩, by simp [intOf] <;> omega⟩
              | false =>
                rw [hq3] at hb3 hcm1
                cases hq4 : b4 with
                | true =>
                  rw [hq4] at HIK HF hcm1
                  cases hq5 : b5 with
                  | true =>
                    rw [hq5] at w5 w6 w7 hcm1
                    obtain rfl := HBad.out (.inr (by rw [hcm1]; rfl))
                    clear hcm1
                    go_wp2_with (go_at_call 41; (with_reducible refine (HIK.out _).mono ?_); rintro e w2 ⟨rfl, X3, rfl⟩)
                    go_ret2
                    exact ⟨_, rfl, ownp_nil _ _, (by (try show Ex _ _); repeat (first | (with_reducible exact ex_refl _) | (with_reducible assumption) | (with_reducible refine ex_drewL ?_) | (with_reducible refine ex_appR ?_ _) | (with_reducible refine ex_wx ?_ _) | (with_reducible refine ex_drew ?_) | (with_reducible refine ex_alloc ?_ _)))⟩
                  | false =>
                    rw [hq5] at w5 w6 w7 hcm1
                    have HC1n : Hid (C1 = false) := Lib.hid (by rw [hcm1]; simp)
                    clear hcm1
                    simp only [if_true] at HF
                    go_wp2_with (first | (go_at_call 41; (with_reducible refine (HIK.out _).mono ?_); rintro e w2 ⟨rfl, X3, rfl⟩) | (at_builtin; refine wpAppP (r := [(sk, tk)]) _ _ rfl rfl (hown.out.ex (by (try show Ex _ _); repeat (first | (with_reducible exact ex_refl _) | (with_reducible assumption) | (with_reducible refine ex_drewL ?_) | (with_reducible refine ex_appR ?_ _) | (with_reducible refine ex_wx ?_ _) | (with_reducible refine ex_drew ?_) | (with_reducible refine ex_alloc ?_ _)))) rfl rfl rfl (hsl.out _ _ _ (by (try show Ex _ _); repeat (first | (with_reducible exact ex_refl _) | (with_reducible assumption) | (with_reducible refine ex_drewL ?_) | (with_reducible refine ex_appR ?_ _) | (with_reducible refine ex_wx ?_ _) | (with_reducible refine ex_drew ?_) | (with_reducible refine ex_alloc ?_ _))) (by simp [go_sem])) (by have := HLN.out; simp <;> omega) (by have := ex_size KW; simp [go_sem] at this ⊢; omega) (fun v1 w1 hown1 hbe => ?_)))
                    refine ⟨⟨k + 1, by omega, by go_num, Lib.hid (by rw [HF.out]; exact hown1), Lib.hid (fun _ => HC0n.out), Lib.hid (fun _ => .inl HC1n.out), ex_of_below ((ex_below (by (try show Ex _ _); repeat (first | (with_reducible exact ex_refl _) | (with_reducible assumption) | (with_reducible refine ex_drewL ?_) | (with_reducible refine ex_appR ?_ _) | (with_reducible refine ex_wx ?_ _) | (with_reducible refine ex_drew ?_) | (with_reducible refine ex_alloc ?_ _)))).trans hbe)⟩, by simp [intOf] <;> omega⟩
                | false =>
                  rw [hq4] at HIK HF hcm1
                  have HC1n : Hid (C1 = false) := Lib.hid (by rw [hcm1]; simp)
                  clear hcm1
                  simp only [Bool.false_eq_true, if_false, List.append_nil] at HF
                  go_wp2_with (go_at_call 41; (with_reducible refine (HIK.out _).mono ?_); rintro e w2 ⟨rfl, X3, rfl⟩)
                  refine ⟨⟨k + 1, by omega, by go_num, Lib.hid (by rw [HF.out]; exact hown.out.ex (by (try show Ex _ _); repeat (first | (with_reducible exact ex_refl _) | (with_reducible assumption) | (with_reducible refine ex_drewL ?_) | (with_reducible refine ex_appR ?_ _) | (with_reducible refine ex_wx ?_ _) | (with_reducible refine ex_drew ?_) | (with_reducible refine ex_alloc ?_ _)))), Lib.hid (fun _ => HC0n.out), Lib.hid (fun _ => .inl HC1n.out), (by (try show Ex _ _); repeat (first | (with_reducible exact ex_refl _) | (with_reducible assumption) | (with_reducible refine ex_drewL ?_) | (with_reducible refine ex_appR ?_ _) | (with_reducible refine ex_wx ?_ _) | (with_reducible refine ex_drew ?_) | (with_reducible refine ex_alloc ?_ _)))⟩, by simp [intOf] <;> omega⟩
            · have zm : ((k : Int) == (L : Int) - 1) = false := beq_eq_false_iff_ne.2 (by omega)
              have zn : (k == L - 1) = false := beq_eq_false_iff_ne.2 (by omega)
              clear HM2
              cases hq4 : b4 with
              | true =>
                rw [hq4] at HIK HF
                simp only [if_true] at HF
                go_wp2_with (first | (go_at_call 41; (with_reducible refine (HIK.out _).mono ?_); rintro e w2 ⟨rfl, X3, rfl⟩) | (at_builtin; refine wpAppP (r := [(sk, tk)]) _ _ rfl rfl (hown.out.ex (by (try show Ex _ _); repeat (first | (with_reducible exact ex_refl _) | (with_reducible assumption) | (with_reducible refine ex_drewL ?_) | (with_reducible refine ex_appR ?_ _) | (with_reducible refine ex_wx ?_ _) | (with_reducible refine ex_drew ?_) | (with_reducible refine ex_alloc ?_ _)))) rfl rfl rfl (hsl.out _ _ _ (by (try show Ex _ _); repeat (first | (with_reducible exact ex_refl _) | (with_reducible assumption) | (with_reducible refine ex_drewL ?_) | (with_reducible refine ex_appR ?_ _) | (with_reducible refine ex_wx ?_ _) | (with_reducible refine ex_drew ?_) | (with_reducible refine ex_alloc ?_ _))) (by simp [go_sem])) (by have := HLN.out; simp <;> omega) (by have := ex_size KW; simp [go_sem] at this ⊢; omega) (fun v1 w1 hown1 hbe => ?_)))
                refine ⟨⟨k + 1, by omega, by go_num, Lib.hid (by rw [HF.out]; exact hown1), Lib.hid (fun _ => HC0n.out), Lib.hid (fun h => absurd (show L = (k + 1) by omega) hkm), ex_of_below ((ex_below (by (try show Ex _ _); repeat (first | (with_reducible exact ex_refl _) | (with_reducible assumption) | (with_reducible refine ex_drewL ?_) | (with_reducible refine ex_appR ?_ _) | (with_reducible refine ex_wx ?_ _) | (with_reducible refine ex_drew ?_) | (with_reducible refine ex_alloc ?_ _)))).trans hbe)⟩, by simp [intOf] <;> omega⟩
              | false =>
                rw [hq4] at HIK HF
                simp only [Bool.false_eq_true, if_false, List.append_nil] at HF
                go_wp2_with (go_at_call 41; (with_reducible refine (HIK.out _).mono ?_); rintro e w2 ⟨rfl, X3, rfl⟩)
                refine ⟨⟨k + 1, by omega, by go_num, Lib.hid (by rw [HF.out]; exact hown.out.ex (by (try show Ex _ _); repeat (first | (with_reducible exact ex_refl _) | (with_reducible assumption) | (with_reducible refine ex_drewL ?_) | (with_reducible refine ex_appR ?_ _) | (with_reducible refine ex_wx ?_ _) | (with_reducible refine ex_drew ?_) | (with_reducible refine ex_alloc ?_ _)))), Lib.hid (fun _ => HC0n.out), Lib.hid (fun h => absurd (show L = (k + 1) by omega) hkm), (by (try show Ex _ _); repeat (first | (with_reducible exact ex_refl _) | (with_reducible assumption) | (with_reducible refine ex_drewL ?_) | (with_reducible refine ex_appR ?_ _) | (with_reducible refine ex_wx ?_ _) | (with_reducible refine ex_drew ?_) | (with_reducible refine ex_alloc ?_ _)))⟩, by simp [intOf] <;> omega⟩
        · obtain rfl : k = L := by omega
          have hfin : ps.take k = ps := List.take_of_length_le (by have := HM.out; omega)
          obtain rfl := HGood.out HC0.out (fun h => by rcases HC1.out rfl with h1 | h1; exact h1; omega)
          rw [hfin] at hown
          clear hlt hk HBad HK0 HK1
          go_wp2
          go_ret2
          exact ⟨_, rfl, owns_le hown.out (Z' := w.heap.size) (by simp [go_sem] <;> omega), (by (try show Ex _ _); repeat (first | (with_reducible exact ex_refl _) | (with_reducible assumption) | (with_reducible refine ex_drewL ?_) | (with_reducible refine ex_appR ?_ _) | (with_reducible refine ex_wx ?_ _) | (with_reducible refine ex_drew ?_) | (with_reducible refine ex_alloc ?_ _)))⟩
    · have hx : verS root ⟨lo, hi, op⟩ t f ps qs = none := by unfold verS; rw [ho, if_neg (by simpa using hxr)]
      rw [hx]
      rw [decide_eq_false hxr] at hE
      generalize ps.length = L at *
      generalize qs.length = L2 at *
      unfold RC
      clear hx ho hps hqs hok hxr HT0
      go_enter Tryd.func50, Tryd.ntmps50
      go_wp2_with (go_at_call 48; (with_reducible refine (HT.out _ (by (try show Ex _ _); repeat (first | (with_reducible exact ex_refl _) | (with_reducible assumption) | (with_reducible refine ex_drewL ?_) | (with_reducible refine ex_appR ?_ _) | (with_reducible refine ex_wx ?_ _) | (with_reducible refine ex_drew ?_) | (with_reducible refine ex_alloc ?_ _)))).mono ?_); rintro e w2 ⟨rfl, X, rfl⟩)
      go_ret2
      exact ⟨_, rfl, ownp_nil _ _, (by (try show Ex _ _); repeat (first | (with_reducible exact ex_refl _) | (with_reducible assumption) | (with_reducible refine ex_drewL ?_) | (with_reducible refine ex_appR ?_ _) | (with_reducible refine ex_wx ?_ _) | (with_reducible refine ex_drew ?_) | (with_reducible refine ex_alloc ?_ _)))⟩
end Go.Proofs.YtbobamifpjlmiaaDoor
