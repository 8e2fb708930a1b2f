import Derived.Test.YtdohohafdplkiaaMDkQ
import Derived.Lib.LazyBuf

/- Copy. -/
set_option linter.unusedSimpArgs false
set_option linter.unusedVariables false
set_option maxRecDepth 20000
namespace Go.Proofs.Ytdohohafdplkiaa
open Go.RowKit
@[go_sem high] theorem eqlnil_put (a : Option Addr) (n c : Nat) (w : World) : (binOp .eql 68 (.slice a n c) (.slice none 0 0)).run Try.prog w = .ok (.bool a.isNone) w := _root_.Go.run_eql_slice_nil w _ _ a n c Try.underlying68
@[go_sem high] theorem eqlnil_bool (a : Option Addr) (n c : Nat) (w : World) : (binOp .eql 35 (.slice a n c) (.slice none 0 0)).run Try.prog w = .ok (.bool a.isNone) w := _root_.Go.run_eql_slice_nil w _ _ a n c Try.underlying35
theorem own_emptyQ {w w' : World} {g : Nat} (k : Ex (w.alloc (.cells #[] 87)) w') (hg : g = w.heap.size) : w'.ownsRow w.heap.size 87 65 (.slice (some ⟨g, 0, none⟩) 0 0) 0 (([] : List Pt).flatMap KQ) := by
  subst hg
  exact owns_ex (owns_new (n := 0) (cap := 0) rfl (Nat.le_refl _) (by omega) (by decide) (by simp) (by simp)) k
set_option maxHeartbeats 1000000 in
theorem cloneQ_any (l : List Pt) (v : Value) (w : World) (hs : SlV1 KQ 65 w v l) (hl : l.length ≤ 1000000) :
    Calls Try.prog 51 #[v] w fun e w' => ∃ v', e = .returned v' ∧ w'.ownsRow w.heap.size 87 65 v' l.length (l.flatMap KQ) ∧ Ex w w' := by
  obtain ⟨a, c, rfl, h1, h2, h3, h4⟩ := id hs.out
  have HS := Lib.hid h4
  clear hs h4
  cases a with
  | none =>
    obtain rfl := h3 rfl
    obtain rfl : l = [] := List.eq_nil_of_length_eq_zero (by omega)
    rw [List.length_nil]
    go_enter Try.func51, Try.ntmps51
    go_wp2
    go_ret
    exact ⟨_, rfl, owns_nil _ _ _ _, (by (try show Ex _ _); repeat (first | (with_reducible exact ex_refl _) | (with_reducible assumption) | (with_reducible refine ex_drewL ?_) | (with_reducible refine ex_appR ?_ _) | (with_reducible refine ex_wx ?_ _) | (with_reducible refine ex_drew ?_) | (with_reducible refine ex_alloc ?_ _)))⟩
  | some ad =>
    clear h3
    have hl1 : 0 + l.length ≤ maxLen := by unfold maxLen; omega
    have hl2 : (0 + l.length) * 72 ≤ 140737488355328 := by omega
    have hne : ∀ u ∈ l.flatMap KQ, u.oneCell' = true := KQ_one l
    have hfl : (l.flatMap KQ).length = l.length * 65 := flat_len KQ_len l
    go_enter Try.func51, Try.ntmps51
    go_wp2_with (at_builtin; refine wpApd (v := .slice (some ⟨w.heap.size, 0, none⟩) 0 0) (n := 0) (xs := ([] : List Pt).flatMap KQ) (B := w.heap.size) appPut _ _ rfl rfl (own_emptyQ (by (try show Ex _ _); repeat (first | (with_reducible exact ex_refl _) | (with_reducible assumption) | (with_reducible refine ex_drewL ?_) | (with_reducible refine ex_appR ?_ _) | (with_reducible refine ex_wx ?_ _) | (with_reducible refine ex_drew ?_) | (with_reducible refine ex_alloc ?_ _))) rfl) rfl ad l.length c (l.flatMap KQ) rfl hfl (SlR.news KQ_len (by omega) (HS.out.ex (by (try show Ex _ _); repeat (first | (with_reducible exact ex_refl _) | (with_reducible assumption) | (with_reducible refine ex_drewL ?_) | (with_reducible refine ex_appR ?_ _) | (with_reducible refine ex_wx ?_ _) | (with_reducible refine ex_drew ?_) | (with_reducible refine ex_alloc ?_ _))))) hne hl1 hl2 (ex_size (by (try show Ex _ _); repeat (first | (with_reducible exact ex_refl _) | (with_reducible assumption) | (with_reducible refine ex_drewL ?_) | (with_reducible refine ex_appR ?_ _) | (with_reducible refine ex_wx ?_ _) | (with_reducible refine ex_drew ?_) | (with_reducible refine ex_alloc ?_ _)))) (fun v1 w1 hown hA => ?_))
    go_ret
    rw [Nat.zero_add] at hown
    refine ⟨v1, rfl, by simpa using hown, ex_of_below ((ex_below (by (try show Ex _ _); repeat (first | (with_reducible exact ex_refl _) | (with_reducible assumption) | (with_reducible refine ex_drewL ?_) | (with_reducible refine ex_appR ?_ _) | (with_reducible refine ex_wx ?_ _) | (with_reducible refine ex_drew ?_) | (with_reducible refine ex_alloc ?_ _)))).trans (hA.below (ex_size (by (try show Ex _ _); repeat (first | (with_reducible exact ex_refl _) | (with_reducible assumption) | (with_reducible refine ex_drewL ?_) | (with_reducible refine ex_appR ?_ _) | (with_reducible refine ex_wx ?_ _) | (with_reducible refine ex_drew ?_) | (with_reducible refine ex_alloc ?_ _)))) fun g hg => ?_))⟩
    obtain rfl : w.heap.size = g := Option.some.inj hg
    exact Nat.le_refl _
/-- The cells of an own row. -/
theorem own_all {w : World} {Z g n cap : Nat} {t : TypeId} {s : Nat} {xs : List Value} (h : w.ownsRow Z t s (.slice (some ⟨g, 0, none⟩) n cap) n xs) : cellsN w g 0 (n * s) = some xs.toArray ∧ frozenN w g 0 (n * s) = false := by
  refine ⟨cellsN_some.2 ⟨by simpa using h.1, fun j hj => ?_⟩, frozenN_false.2 fun j hj => ?_⟩
  · have hx : xs[j]? = some (xs[j]'(by rw [h.1]; exact hj)) := List.getElem?_eq_getElem _
    have := h.cells (g := g) rfl j _ hx
    have hadd : (⟨g, 0, none⟩ : Addr).add j = ⟨g, j, none⟩ := by unfold Addr.add; split <;> simp_all
    rw [hadd] at this
    rw [Nat.zero_add, this, List.getElem?_toArray, hx]
  · rcases h.2 with ⟨hv, _⟩ | ⟨g', cap', cur, hv, _, hb, _⟩
    · cases hv
    · cases hv
      simp [World.frozen?, hb]
set_option maxHeartbeats 1000000 in
theorem copy_any {w : World} {L : Loc} {d : Dk} (h : DkAt w L d) :
    Calls Try.prog 29 #[PT L.p] w fun e w' => ∃ Lc, e = .returned (PT Lc.p) ∧ DkAt w' Lc d ∧ Ex w w' ∧ ∀ b, Lc.own b → w.heap.size ≤ b := by
  obtain ⟨qv, hM⟩ := h.out
  have hok := hM.ok
  have hn2 := hok.n2
  have hqn := hok.qn
  have hqs := SlV1.of_own KQ_len (by omega) hM.bq
  obtain ⟨qa, qc, rfl, _⟩ := own_form hM.bq
  obtain ⟨⟨c0, c1, c2, c3, c4, c5⟩, hf, hz⟩ := hM.cells
  have h6 := (block_cells (n := 6) hM.bp rfl).1
  obtain ⟨w1, hw1⟩ : ∃ w1, w.alloc (.cells #[.slice (some ⟨L.h, 0, none⟩) d.has.length d.has.length, .slice qa d.qu.length qc, I d.ar, I d.dm, .bool d.dark, I (d.ops : Nat)] 70) = w1 := ⟨_, rfl⟩
  have k1 : Ex w w1 := by rw [← hw1]; exact ex_alloc (ex_refl _) _
  have r1 : w1.heap[w.heap.size]? = some (.cells #[.slice (some ⟨L.h, 0, none⟩) d.has.length d.has.length, .slice qa d.qu.length qc, I d.ar, I d.dm, .bool d.dark, I (d.ops : Nat)] 70 (0, 0)) := by rw [← hw1]; exact heap_alloc_new w _
  have z1 : w.heap.size < w1.heap.size := (Array.getElem?_eq_some_iff.1 r1).1
  have HC := Lib.hid (fun W (k : Ex w W) => cloneQ_any d.qu _ W (hqs.ex k) hqn)
  have HM := Lib.hid hM
  have HW1 := Lib.hid hw1
  have R1 := Lib.hid r1
  have K1 := Lib.hid k1
  have e3 : 64 * (d.has.length : Int) ≤ 281474976710656 := by omega
  have e4 : (d.has.length : Int) ≤ 9223372036854775807 := by omega
  have hpb : L.p ≠ w.heap.size := by have := hM.lt (b := L.p) (Or.inl rfl); omega
  clear hw1 r1 k1 hM h hok hqs hf c2 c3 c4 c5
  go_enter Try.func29, Try.ntmps29
  go_wp2_with (go_at_call 51; rw [HW1.out]; (with_reducible refine (HC.out _ K1.out).mono ?_); rintro e w2 ⟨v2, rfl, hO2, k2⟩; obtain ⟨va, vc, rfl, _⟩ := own_form hO2; have r2 := ex_block k2 R1.out; obtain ⟨d1, f1⟩ := block_cell (o := 1) (v := .slice qa d.qu.length qc) r2 rfl; obtain ⟨d0, f0⟩ := block_cell (o := 0) (v := .slice (some ⟨L.h, 0, none⟩) d.has.length d.has.length) r2 rfl; have z2 := (Array.getElem?_eq_some_iff.1 r2).1; have hM2 := HM.out.ex (ex_trans K1.out k2); obtain ⟨⟨a0, _, _, _, _, _⟩, _, zp⟩ := hM2.cells; replace hO2 := Lib.hid hO2; replace k2 := Lib.hid k2; replace r2 := Lib.hid r2; replace hM2 := Lib.hid hM2)
  obtain ⟨bn, hbn⟩ : ∃ bn, bn = w2.heap.size := ⟨_, rfl⟩
  obtain ⟨bc, hbc⟩ : ∃ bc, bc = w.heap.size := ⟨_, rfl⟩
  rw [← hbn, ← hbc]
  rw [← hbc] at z1 z2 hpb r2
  obtain ⟨w4, hw4⟩ : ∃ w4, (w2.setCell ⟨bc, 1, none⟩ (.slice va d.qu.length vc)).setCell ⟨bc, 0, none⟩ (.slice (some ⟨bn, 0, none⟩) d.has.length d.has.length) = w4 := ⟨_, rfl⟩
  have s4 : w4.heap.size = w2.heap.size := by rw [← hw4]; simp [World.setCell]
  have q4 : w4.heap[bc]? = some (.cells #[.slice (some ⟨bn, 0, none⟩) d.has.length d.has.length, .slice va d.qu.length vc, I d.ar, I d.dm, .bool d.dark, I (d.ops : Nat)] 70 (0, 0)) := by
    rw [← hw4, setCell_block _ (setCell_block _ r2.out)]; rfl
  have o4 : ∀ k, k ≠ bc → w4.heap[k]? = w2.heap[k]? := fun k hk => by rw [← hw4]; exact (setCell_heap _ hk).trans (setCell_heap _ hk)
  have x4 : Ex w w4 := by
    rw [← hw4]
    exact ex_set (ex_set (ex_trans K1.out k2.out) (by rw [hbc]; exact Nat.le_refl _) _) (by rw [hbc]; exact Nat.le_refl _) _
  rw [hw4]
  clear hw4
  have m4 : DkM w4 L d (.slice qa d.qu.length qc) := hM2.out.keep fun k hk => o4 k (by have := HM.out.lt hk; omega)
  have hvb : ∀ g, (Value.slice va d.qu.length vc).ownBlock = some g → w1.heap.size ≤ g ∧ g < w2.heap.size := fun g hg => World.ownsRow.lt hO2.out g hg
  have p4 := owns_same hO2.out fun k hk => o4 k (by have := (hvb k hk).1; omega)
  obtain ⟨W5, hW5⟩ : ∃ W5, w4.alloc (.cells (manyC (.agg (rowB 64 fun x => 0)) (d.has.length * 64)) 39) = W5 := ⟨_, rfl⟩
  have x5 : Ex w4 W5 := by rw [← hW5]; exact ex_alloc (ex_refl _) _
  have s5 : W5.heap.size = w4.heap.size + 1 := by rw [← hW5]; simp [go_sem]
  have n5 := own_zero (w := w4) (w' := W5) d.has.length hn2 (g := bn) (by omega) (by rw [hW5]; exact ex_refl _)
  rw [hW5]
  clear hW5
  have q5 := ex_block x5 q4
  have m5 := m4.ex x5
  have p5 := owns_ex p4 x5
  obtain ⟨a5, fa⟩ := block_cell (o := 0) (v := .slice (some ⟨bn, 0, none⟩) d.has.length d.has.length) q5 rfl
  obtain ⟨⟨b5, _, _, _, _, _⟩, _, zp5⟩ := m5.cells
  have zc5 : bc < W5.heap.size := by omega
  obtain ⟨u5, uf⟩ := own_all m5.bh
  obtain ⟨v5, vf⟩ := own_all n5
  have hone : oneCells (d.has.flatMap KK).toArray = true := by
    unfold oneCells
    rw [Array.all_eq_true_iff_forall_mem]
    intro u hu
    exact KK_one d.has u (by simpa using hu)
  have hLh : L.h < w.heap.size := HM.out.lt (Or.inr (Or.inl rfl))
  obtain ⟨P, hP⟩ : ∃ P : Nat → Prop, P = fun k => k = bn := ⟨_, rfl⟩
  have p1 : ¬ P L.p := by rw [hP]; show ¬ L.p = bn; have := HM.out.lt (b := L.p) (Or.inl rfl); omega
  have p2 : ¬ P bc := by rw [hP]; show ¬ bc = bn; omega
  have pp : P bn := by rw [hP]
  have F9 := Lib.hid (Frm.refl P W5)
  have Q5 := Lib.hid q5
  have P5 := Lib.hid p5
  have N5 := Lib.hid n5
  have M5 := Lib.hid m5
  have X5 := Lib.hid (ex_trans x4 x5)
  have e9 : Hid (bc = w.heap.size ∧ bn = w2.heap.size ∧ w.heap.size < w1.heap.size ∧ bc < w2.heap.size ∧ w1.heap.size ≤ w2.heap.size) := Lib.hid ⟨hbc, hbn, by omega, by omega, ex_size k2.out⟩
  have Hvb := Lib.hid hvb
  replace hP := Lib.hid hP
  clear q4 o4 x4 m4 p4 x5 n5 q5 p5 m5 hvb hbn hbc
  refine wp_midF (fun a' w' => a'.defers = [] ∧ a'.tmps[3]?.getD undef = PT bc ∧ (∃ u22 u23 u24 u25 u26 u27 u28, a' = { tmps := #[PT L.p, undef, .pointer none, PT bc, PT L.p, .bool false, PT L.p, PT L.p, .agg #[.slice (some ⟨L.h, 0, none⟩) d.has.length d.has.length, .slice qa d.qu.length qc, I d.ar, I d.dm, .bool d.dark, I (d.ops : Nat)], PT L.p, PT L.p, .pointer (some ⟨L.p, 1, none⟩), .slice qa d.qu.length qc, .slice va d.qu.length vc, .pointer (some ⟨bc, 1, none⟩), PT L.p, PT L.p, PT L.p, .slice (some ⟨L.h, 0, none⟩) d.has.length d.has.length, .int .i64 d.has.length, .slice (some ⟨bn, 0, none⟩) d.has.length d.has.length, PT bc, u22, u23, u24, u25, u26, u27, u28], defers := [] }) ∧ w' = (W5.setCells bn 0 (d.has.flatMap KK)).drew) ?_ ?_
  · refine wp_region_forkH (fun w' => ∃ X, w' = kp W5 P X) (.look 0 (.look 1 (.look 2 (.look 3 (.look 4 (.look 5 (.eff 6 .done))))))) (⟨_, kp_of (fun _ _ _ => rfl)⟩) (by kernel_rfl) (by kernel_rfl) (fun _ _ d _ _ h => by cases d <;> exact h) ?_
    simp only [Fk.ops, nth]
    repeat (first | ((with_reducible refine wpForkH_look ?_); go_big_quiet_step (fail); (try (with_reducible refine wpQuiet_nil ?_))) | (with_reducible refine wpForkH_eff ?_) | ((with_reducible refine effH_F ?_ ?_); (focus rfl); go_simp) | ((with_reducible refine effH_T ?_ ?_); (focus rfl); (try dsimp only); go_wp2_with (fail); refine mixQH_mk (⟨_, kp_of (by first | (with_reducible exact ((F9.out.sets pp _ _).trans (Frm.ex (ex_drew (ex_refl _)))).same) | (with_reducible exact (F9.out.sets pp _ _).same))⟩) ?_))
    all_goals (with_reducible refine wpForkH_nil ?_)
    all_goals exact ⟨rfl, rfl, ⟨_, _, _, _, _, _, _, rfl⟩, rfl⟩
  rintro a1 w6 ⟨_, _, ⟨u22, u23, u24, u25, u26, u27, u28, rfl⟩, hw6⟩
  have F6 : Frm (fun k => k = bn) W5 w6 := by rw [hw6]; exact ((Frm.refl (fun k => k = bn) W5).sets rfl _ _).trans (Frm.ex (ex_drew (ex_refl _)))
  have N6 : w6.ownsRow 0 39 64 (.slice (some ⟨bn, 0, none⟩) d.has.length d.has.length) d.has.length (d.has.flatMap KK) := by
    rcases N5.out.2 with ⟨hv, _⟩ | ⟨g, cap, cur, hv, h1, h2, h3, h4, h5, h6⟩
    · cases hv
    · cases hv
      rw [hw6]
      refine owns_drew ⟨flat_len KK_len d.has, Or.inr ⟨bn, d.has.length, (d.has.flatMap KK).toArray, rfl, Nat.zero_le _, ?_, Nat.le_refl _, h4, by simp [flat_len KK_len], by rw [List.take_of_length_le (by rw [flat_len KK_len]; exact Nat.le_refl _)]⟩⟩
      have := setCells_block bn 39 (0, 0) (d.has.flatMap KK) 0 W5 _ h2
      rwa [spliceA_all _ _ (by rw [flat_len KK_len, h5])] at this
  clear hw6
  replace F6 := Lib.hid F6
  replace N6 := Lib.hid N6
  go_wp2
  go_ret
  obtain ⟨E1, E2, E3, E4, E5⟩ := e9.out
  refine ⟨⟨bc, bn, (Value.slice va d.qu.length vc).ownBlock⟩, rfl, ⟨.slice va d.qu.length vc, (F6.out.same bc zc5 (by omega)).trans Q5.out, N6.out, ?_, rfl, (by show bc ≠ bn; omega), (fun e => by have := (Hvb.out _ e).1; simp only at this; omega), (fun e => by have := (Hvb.out _ e).2; simp only at this; omega), M5.out.ok⟩, ?_, ?_⟩
  · exact owns_lower (owns_same P5.out fun k hk => F6.out.same k ((World.ownsRow.lt P5.out k hk).2) (by have := (Hvb.out k hk).2; omega)) (Nat.zero_le _)
  · exact ex_of_below ((ex_below X5.out).trans (F6.out.below (ex_size X5.out) fun k hk => by omega))
  · rintro b (hb | hb | hb)
    · have hb : b = bc := hb
      omega
    · have hb : b = bn := hb
      omega
    · have := (Hvb.out b hb).1; omega
end Go.Proofs.Ytdohohafdplkiaa
