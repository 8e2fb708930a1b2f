import Derived.Test.YtpcfkjeikhehaaaDoorMRdS
import Derived.Test.YtpcfkjeikhehaaaDoorMFrFew

/- Readers in memory: what is known of them; the octet reader's methods walked. -/
set_option linter.unusedSimpArgs false
set_option linter.unusedVariables false
set_option maxRecDepth 20000
namespace Go.Proofs.YtpcfkjeikhehaaaDoor
open Go.RowKit
abbrev PT (b : Nat) : Value := .pointer (some ⟨b, 0, none⟩)
/-- A message in a block of the call's own, its lists above a height. -/
structure MsM (w : World) (Z bm : Nat) (xs : Value × Value × Value) (m : Ms) : Prop where
  hp : w.heap[bm]? = some (.cells #[I m.kd, I m.fr, I m.to, L m.tm, L m.pi, L m.pt, xs.1, L m.cm, .bool m.ok, xs.2.1, xs.2.2] 41 (0, 0))
  es : OwnE w Z xs.1 m.es
  mb : OwnI w Z xs.2.1 m.mb
  da : OwnL w Z xs.2.2 m.da
theorem MsM.keep {w w' : World} {Z bm : Nat} {xs : Value × Value × Value} {m : Ms} (h : MsM w Z bm xs m) (k : Keep Z w w') (hb : w'.heap[bm]? = w.heap[bm]?) : MsM w' Z bm xs m :=
  ⟨hb.trans h.hp, h.es.keep k, own_keep h.mb k, own_keep h.da k⟩
/-- A reader, its octet reader, the message that it fills. -/
structure RdM (A w : World) (Z p q bm : Nat) (xs : Value × Value × Value) (v : Value) (l : List UInt8) (s : Rs) (m : Ms) : Prop where
  ex : Ex A w
  hz : Z ≤ w.heap.size
  hp : A.heap.size ≤ p ∧ p < Z
  hq : A.heap.size ≤ q ∧ q < Z
  hb : A.heap.size ≤ bm ∧ bm < Z
  pq : p ≠ q
  pb : p ≠ bm
  qb : q ≠ bm
  sl : SlT A v l
  ll : l.length ≤ 1000000
  le : s.pl ≤ l.length
  bp : w.heap[p]? = some (.cells #[PT q, v, .bool s.bad] 107 (0, 0))
  bq : w.heap[q]? = some (.cells #[v, I s.pl, I s.er] 122 (0, 0))
  ms : MsM w Z bm xs m
section
variable {A w w' : World} {Z p q bm : Nat} {xs : Value × Value × Value} {v : Value} {l : List UInt8} {s : Rs} {m : Ms}
theorem RdM.grow (h : RdM A w Z p q bm xs v l s m) (k : Ex w w') : RdM A w' Z p q bm xs v l s m :=
  { h with ex := ex_trans h.ex k, hz := Nat.le_trans h.hz (ex_size k), bp := ex_block k h.bp, bq := ex_block k h.bq,
           ms := h.ms.keep (Keep.ofEx k) (by obtain ⟨X, rfl⟩ := k; exact wx_heap w X bm (Nat.lt_of_lt_of_le h.hb.2 h.hz)) }
theorem set_size (w : World) (a : Addr) (v : Value) : (w.setCell a v).heap.size = w.heap.size := by simp [World.setCell]
theorem RdM.setPl (h : RdM A w Z p q bm xs v l s m) {n : Nat} (hn : n ≤ l.length) : RdM A (w.setCell ⟨q, 1, none⟩ (I n)) Z p q bm xs v l { s with pl := n } m :=
  { h with ex := ex_set h.ex h.hq.1 _, hz := by rw [set_size]; exact h.hz, le := hn, bp := (setCell_heap _ h.pq).trans h.bp, bq := setCell_block _ h.bq,
           ms := h.ms.keep (Keep.set (Keep.refl _ _) h.hq.2 _) (setCell_heap _ (Ne.symm h.qb)) }
theorem RdM.setEr (h : RdM A w Z p q bm xs v l s m) (e : Int) : RdM A (w.setCell ⟨q, 2, none⟩ (I e)) Z p q bm xs v l { s with er := e } m :=
  { h with ex := ex_set h.ex h.hq.1 _, hz := by rw [set_size]; exact h.hz, bp := (setCell_heap _ h.pq).trans h.bp, bq := setCell_block _ h.bq,
           ms := h.ms.keep (Keep.set (Keep.refl _ _) h.hq.2 _) (setCell_heap _ (Ne.symm h.qb)) }
theorem RdM.setBad (h : RdM A w Z p q bm xs v l s m) (b : Bool) : RdM A (w.setCell ⟨p, 2, none⟩ (.bool b)) Z p q bm xs v l { s with bad := b } m :=
  { h with ex := ex_set h.ex h.hp.1 _, hz := by rw [set_size]; exact h.hz, bp := setCell_block _ h.bp, bq := (setCell_heap _ (Ne.symm h.pq)).trans h.bq,
           ms := h.ms.keep (Keep.set (Keep.refl _ _) h.hp.2 _) (setCell_heap _ (Ne.symm h.pb)) }
theorem RdM.setB (h : RdM A w Z p q bm xs v l s m) {o : Nat} {x : Value} {m' : Ms} {xs' : Value × Value × Value} (hm : MsM (w.setCell ⟨bm, o, none⟩ x) Z bm xs' m') : RdM A (w.setCell ⟨bm, o, none⟩ x) Z p q bm xs' v l s m' :=
  { h with ex := ex_set h.ex h.hb.1 _, hz := by rw [set_size]; exact h.hz, bp := (setCell_heap _ h.pb).trans h.bp, bq := (setCell_heap _ h.qb).trans h.bq, ms := hm }
theorem RdM.cells (h : RdM A w Z p q bm xs v l s m) : (w.cell? ⟨q, 0, none⟩ = some v ∧ w.cell? ⟨q, 1, none⟩ = some (I s.pl) ∧ w.cell? ⟨q, 2, none⟩ = some (I s.er) ∧ w.frozen? ⟨q, 1, none⟩ = false ∧ w.frozen? ⟨q, 2, none⟩ = false) ∧
    (w.cell? ⟨p, 0, none⟩ = some (PT q) ∧ w.cell? ⟨p, 1, none⟩ = some v ∧ w.cell? ⟨p, 2, none⟩ = some (.bool s.bad) ∧ w.frozen? ⟨p, 2, none⟩ = false) ∧ q < w.heap.size ∧ p < w.heap.size :=
  ⟨⟨(block_cell h.bq rfl).1, (block_cell h.bq rfl).1, (block_cell h.bq rfl).1, (block_cell (v := I s.pl) h.bq rfl).2, (block_cell (v := I s.er) h.bq rfl).2⟩, ⟨(block_cell h.bp rfl).1, (block_cell h.bp rfl).1, (block_cell h.bp rfl).1, (block_cell (v := .bool s.bad) h.bp rfl).2⟩, Nat.lt_of_lt_of_le h.hq.2 h.hz, Nat.lt_of_lt_of_le h.hp.2 h.hz⟩
theorem RdM.form (h : RdM A w Z p q bm xs v l s m) : ∃ a c, v = .slice a l.length c ∧ l.length ≤ c ∧ c ≤ maxLen ∧ (a = none → c = 0) := by
  obtain ⟨a, c, hv, h1, h2, h3, _⟩ := h.sl.out
  exact ⟨a, c, hv, h1, h2, h3⟩
end
/-- What is kept: all but two blocks. -/
structure Mt (p q : Nat) (w w' : World) : Prop where
  size : w.heap.size ≤ w'.heap.size
  same : ∀ b, b < w.heap.size → b ≠ p → b ≠ q → w'.heap[b]? = w.heap[b]?
theorem Mt.refl (p q : Nat) (w : World) : Mt p q w w := ⟨Nat.le_refl _, fun _ _ _ _ => rfl⟩
theorem Mt.trans {p q : Nat} {a b c : World} (h : Mt p q a b) (k : Mt p q b c) : Mt p q a c := ⟨Nat.le_trans h.size k.size, fun i h1 h2 h3 => (k.same i (Nat.lt_of_lt_of_le h1 h.size) h2 h3).trans (h.same i h1 h2 h3)⟩
theorem Mt.ex {p q : Nat} {w w' : World} (k : Ex w w') : Mt p q w w' := by
  obtain ⟨X, rfl⟩ := k
  exact ⟨by rw [wx_size]; omega, fun b hb _ _ => wx_heap w X b hb⟩
theorem Mt.setQ {p q : Nat} {w w' : World} (h : Mt p q w w') (o : Nat) (x : Value) : Mt p q w (w'.setCell ⟨q, o, none⟩ x) :=
  ⟨by rw [set_size]; exact h.size, fun b h1 h2 h3 => (setCell_heap x h3).trans (h.same b h1 h2 h3)⟩
theorem Mt.setP {p q : Nat} {w w' : World} (h : Mt p q w w') (o : Nat) (x : Value) : Mt p q w (w'.setCell ⟨p, o, none⟩ x) :=
  ⟨by rw [set_size]; exact h.size, fun b h1 h2 h3 => (setCell_heap x h2).trans (h.same b h1 h2 h3)⟩
theorem fails_any {A w : World} {Z p q bm : Nat} {xs : Value × Value × Value} {v : Value} {l : List UInt8} {s : Rs} {m : Ms} (h : RdM A w Z p q bm xs v l s m) (e : Int) :
    Calls Tryd.prog 98 #[PT q, I e] w fun x w' => x = .returned (.tuple #[]) ∧ RdM A w' Z p q bm xs v l { s with er := failI s.er e } m ∧ Mt p q w w' := by
  obtain ⟨⟨q0, q1, q2, qf1, qf2⟩, _, hqz, _⟩ := h.cells
  obtain ⟨pl, er, bad⟩ := s
  replace h := Lib.hid h
  simp only at q1 q2
  by_cases h0 : er = 0
  · subst h0
    go_enter Tryd.func98, Tryd.ntmps98
    go_wp2
    go_end0
    exact ⟨rfl, h.out.setEr e, (Mt.refl p q w).setQ _ _⟩
  · have h1 : (er == 0) = false := by simpa using h0
    go_enter Tryd.func98, Tryd.ntmps98
    go_wp2
    go_end0
    refine ⟨rfl, ?_, Mt.refl _ _ _⟩
    simpa [failI, h0] using h.out
theorem left_any {A w : World} {Z p q bm : Nat} {xs : Value × Value × Value} {v : Value} {l : List UInt8} {s : Rs} {m : Ms} (h : RdM A w Z p q bm xs v l s m) :
    Calls Tryd.prog 97 #[PT q] w fun x w' => x = .returned (I ((l.length : Int) - s.pl)) ∧ RdM A w' Z p q bm xs v l s m ∧ Mt p q w w' := by
  obtain ⟨⟨q0, q1, q2, qf1, qf2⟩, _, hqz, _⟩ := h.cells
  obtain ⟨a, c, rfl, k1, k2, k3⟩ := h.form
  have hl := h.ll
  have hle := h.le
  replace h := Lib.hid h
  have ew : wrap64 ((l.length : Int) - s.pl) = (l.length : Int) - s.pl := by unfold wrap64; omega
  go_enter Tryd.func97, Tryd.ntmps97
  go_wp2
  refine wp_region_fork (w) (.look 0 (.look 1 (.look 2 (.look 3 (.look 4 (.look 5 (.look 6 (.look 7 (.look 8 (.look 9 (.look 10 (.look 11 (.look 12 .done))))))))))))) (by (try show Ex _ _); repeat (first | (with_reducible exact ex_refl _) | (with_reducible assumption) | (with_reducible refine ex_drewL ?_) | (with_reducible refine ex_appR ?_ _) | (with_reducible refine ex_wx ?_ _) | (with_reducible refine ex_drew ?_) | (with_reducible refine ex_alloc ?_ _))) (by kernel_rfl) (by kernel_rfl) (fun _ _ d _ _ h => by cases d <;> exact h) ?_
  simp only [Fk.ops, nth]
  repeat (first | ((with_reducible refine wpFork_look ?_); go_big_quiet_step (fail); (try (with_reducible refine wpQuiet_nil ?_))) | (with_reducible refine wpFork_eff ?_) | ((with_reducible refine effT_F ?_ ?_); (focus rfl); go_simp) | ((with_reducible refine effT_T ?_ ?_); (focus rfl); (try dsimp only); go_wp2_with (fail); refine mixQ_mk (by (try show Ex _ _); repeat (first | (with_reducible exact ex_refl _) | (with_reducible assumption) | (with_reducible refine ex_drewL ?_) | (with_reducible refine ex_appR ?_ _) | (with_reducible refine ex_wx ?_ _) | (with_reducible refine ex_drew ?_) | (with_reducible refine ex_alloc ?_ _))) ?_))
  all_goals (with_reducible refine wpFork_nil ?_)
  go_wp2
  go_ret
  exact ⟨rfl, h.out.grow (by (try show Ex _ _); repeat (first | (with_reducible exact ex_refl _) | (with_reducible assumption) | (with_reducible refine ex_drewL ?_) | (with_reducible refine ex_appR ?_ _) | (with_reducible refine ex_wx ?_ _) | (with_reducible refine ex_drew ?_) | (with_reducible refine ex_alloc ?_ _))), Mt.ex (w := w) (by (try show Ex _ _); repeat (first | (with_reducible exact ex_refl _) | (with_reducible assumption) | (with_reducible refine ex_drewL ?_) | (with_reducible refine ex_appR ?_ _) | (with_reducible refine ex_wx ?_ _) | (with_reducible refine ex_drew ?_) | (with_reducible refine ex_alloc ?_ _)))⟩
theorem SlT.cut {w : World} {ad : Addr} {n c : Nat} {l : List UInt8} (h : SlT w (.slice (some ad) n c) l) (i k : Nat) (hk : i + k ≤ l.length) : SlT w (.slice (some (ad.add i)) k (c - i)) ((l.drop i).take k) := by
  obtain ⟨a2, c2, hv, h1, h2, h3, h4⟩ := h.out
  obtain ⟨rfl, rfl, rfl⟩ : some ad = a2 ∧ n = l.length ∧ c = c2 := by simpa using hv
  have hl : ((l.drop i).take k).length = k := by rw [List.length_take, List.length_drop]; omega
  refine ⟨_, c - i, by rw [hl], by rw [hl]; omega, by omega, (fun h => by cases h), ?_⟩
  rcases h4.out with h0 | ⟨g2, off2, h5, hg, hcell⟩
  · refine ⟨Or.inl ?_⟩; rw [hl]; omega
  · obtain rfl : ad = ⟨g2, off2, none⟩ := by simpa using h5
    have hadd : (⟨g2, off2, none⟩ : Addr).add i = ⟨g2, off2 + i, none⟩ := by unfold Addr.add; split <;> simp_all
    rw [hadd]
    refine SlB.mk' hg fun j hj => ?_
    rw [hl] at hj
    rw [show off2 + i + j = off2 + (i + j) by omega, hcell (i + j) (by omega)]
    unfold gF
    rw [List.getD_eq_getElem?_getD, List.getD_eq_getElem?_getD, List.getElem?_take, if_pos hj, List.getElem?_drop]
theorem slt_zero {w : World} {a : Option Addr} {c : Nat} (hc : c ≤ maxLen) (ha : a = none → c = 0) : SlT w (.slice a 0 c) [] := ⟨a, c, rfl, Nat.zero_le _, hc, ha, ⟨Or.inl rfl⟩⟩
theorem next_any {A w : World} {Z p q bm : Nat} {xs : Value × Value × Value} {v : Value} {l : List UInt8} {s : Rs} {m : Ms} (h : RdM A w Z p q bm xs v l s m) (n : Nat) (hn : n ≤ 1000000) :
    Calls Tryd.prog 96 #[PT q, I n] w fun x w' => ∃ u, x = .returned u ∧ SlT w' u (rawP l n s).1 ∧ RdM A w' Z p q bm xs v l (rawP l n s).2 m ∧ Mt p q w w' := by
  obtain ⟨⟨q0, q1, q2, qf1, qf2⟩, _, hqz, _⟩ := h.cells
  obtain ⟨a, c, rfl, k1, k2, k3⟩ := h.form
  have hle := h.le
  have hll := h.ll
  obtain ⟨pl, er, bad⟩ := s
  simp only at q1 q2 hle
  have H := Lib.hid h
  have HF := Lib.hid (fun W (hW : RdM A W Z p q bm xs (.slice a l.length c) l ⟨pl, er, bad⟩ m) (e : Int) => fails_any hW e)
  have HL := Lib.hid (fun W (hW : RdM A W Z p q bm xs (.slice a l.length c) l ⟨pl, er, bad⟩ m) => left_any hW)
  simp only at HL HF
  unfold maxLen at k2
  by_cases h0 : er = 0
  · subst h0
    by_cases h1 : n ≤ l.length - pl
    · have e1 : ¬ ((l.length : Int) - pl < n) := by omega
      have hr : rawP l n ⟨pl, 0, bad⟩ = ((l.drop pl).take n, ⟨pl + n, 0, bad⟩) := by unfold rawP; rw [if_pos ⟨rfl, h1⟩]
      rw [hr]
      clear hr h
      go_enter Tryd.func96, Tryd.ntmps96
      go_wp2_with (go_at_call 97; (with_reducible refine (HL.out _ H.out).mono ?_); rintro e w2 ⟨rfl, H2, zz2⟩; obtain ⟨⟨r0, r1, r2, rf1, rf2⟩, _, hrz, _⟩ := H2.cells; simp only at r1 r2; replace H2 := Lib.hid H2)
      have H3 := H2.out.setPl (n := pl + n) (by omega)
      rw [Int.natCast_add] at H3
      obtain ⟨W5, hW5⟩ : ∃ W5, w2.setCell ⟨q, 1, none⟩ (I ((pl : Int) + n)) = W5 := ⟨_, rfl⟩
      have hzz : Mt p q w W5 := by rw [← hW5]; exact zz2.setQ _ _
      rw [hW5] at H3 ⊢
      clear hW5
      obtain ⟨⟨t0, t1, t2, tf1, tf2⟩, _, htz, _⟩ := H3.cells
      simp only at t1 t2
      rw [Int.natCast_add] at t1
      have HS := Lib.hid (H3.sl.ex H3.ex)
      replace H3 := Lib.hid H3
      clear q0 q1 q2 qf1 qf2 r0 r1 r2 rf1 rf2 hqz hrz H H2 HF HL
      have e2 : (pl : Int) + n - n = pl := by omega
      have e3 : (pl : Int) + n ≤ c := by omega
      have e4 : (pl : Int) ≤ (pl : Int) + n := by omega
      cases a with
      | none =>
        obtain rfl := k3 rfl
        obtain rfl : pl = 0 := by omega
        obtain rfl : n = 0 := by omega
        obtain rfl : l = [] := List.eq_nil_of_length_eq_zero (by omega)
        clear k3 e2 e3 e4 hle h1 e1 hll k1
        refine wp_region_fork (W5) (.look 0 (.look 1 (.look 2 (.look 3 (.look 4 (.look 5 (.look 6 (.look 7 (.look 8 (.look 9 (.look 10 (.look 11 (.look 12 (.look 13 (.look 14 (.look 15 (.look 16 (.look 17 (.look 18 .done))))))))))))))))))) (by (try show Ex _ _); repeat (first | (with_reducible exact ex_refl _) | (with_reducible assumption) | (with_reducible refine ex_drewL ?_) | (with_reducible refine ex_appR ?_ _) | (with_reducible refine ex_wx ?_ _) | (with_reducible refine ex_drew ?_) | (with_reducible refine ex_alloc ?_ _))) (by kernel_rfl) (by kernel_rfl) (fun _ _ d _ _ h => by cases d <;> exact h) ?_
        simp only [Fk.ops, nth]
        repeat (first | ((with_reducible refine wpFork_look ?_); go_big_quiet_step (fail); (try (with_reducible refine wpQuiet_nil ?_))) | (with_reducible refine wpFork_eff ?_) | ((with_reducible refine effT_F ?_ ?_); (focus rfl); go_simp) | ((with_reducible refine effT_T ?_ ?_); (focus rfl); (try dsimp only); go_wp2_with (fail); refine mixQ_mk (by (try show Ex _ _); repeat (first | (with_reducible exact ex_refl _) | (with_reducible assumption) | (with_reducible refine ex_drewL ?_) | (with_reducible refine ex_appR ?_ _) | (with_reducible refine ex_wx ?_ _) | (with_reducible refine ex_drew ?_) | (with_reducible refine ex_alloc ?_ _))) ?_))
        all_goals (with_reducible refine wpFork_nil ?_)
        all_goals go_wp2
        go_ret
        exact ⟨_, rfl, slt_zero (by decide) (fun _ => rfl), H3.out.grow (by (try show Ex _ _); repeat (first | (with_reducible exact ex_refl _) | (with_reducible assumption) | (with_reducible refine ex_drewL ?_) | (with_reducible refine ex_appR ?_ _) | (with_reducible refine ex_wx ?_ _) | (with_reducible refine ex_drew ?_) | (with_reducible refine ex_alloc ?_ _))), hzz.trans (Mt.ex (w := W5) (by (try show Ex _ _); repeat (first | (with_reducible exact ex_refl _) | (with_reducible assumption) | (with_reducible refine ex_drewL ?_) | (with_reducible refine ex_appR ?_ _) | (with_reducible refine ex_wx ?_ _) | (with_reducible refine ex_drew ?_) | (with_reducible refine ex_alloc ?_ _))))⟩
      | some ad =>
        clear k3
        by_cases hc : pl = c
        · obtain rfl : n = 0 := by omega
          subst hc
          refine wp_region_fork (W5) (.look 0 (.look 1 (.look 2 (.look 3 (.look 4 (.look 5 (.look 6 (.look 7 (.look 8 (.look 9 (.look 10 (.look 11 (.look 12 (.look 13 (.look 14 (.look 15 (.look 16 (.look 17 (.look 18 .done))))))))))))))))))) (by (try show Ex _ _); repeat (first | (with_reducible exact ex_refl _) | (with_reducible assumption) | (with_reducible refine ex_drewL ?_) | (with_reducible refine ex_appR ?_ _) | (with_reducible refine ex_wx ?_ _) | (with_reducible refine ex_drew ?_) | (with_reducible refine ex_alloc ?_ _))) (by kernel_rfl) (by kernel_rfl) (fun _ _ d _ _ h => by cases d <;> exact h) ?_
          simp only [Fk.ops, nth]
          repeat (first | ((with_reducible refine wpFork_look ?_); go_big_quiet_step (fail); (try (with_reducible refine wpQuiet_nil ?_))) | (with_reducible refine wpFork_eff ?_) | ((with_reducible refine effT_F ?_ ?_); (focus rfl); go_simp) | ((with_reducible refine effT_T ?_ ?_); (focus rfl); (try dsimp only); go_wp2_with (fail); refine mixQ_mk (by (try show Ex _ _); repeat (first | (with_reducible exact ex_refl _) | (with_reducible assumption) | (with_reducible refine ex_drewL ?_) | (with_reducible refine ex_appR ?_ _) | (with_reducible refine ex_wx ?_ _) | (with_reducible refine ex_drew ?_) | (with_reducible refine ex_alloc ?_ _))) ?_))
          all_goals (with_reducible refine wpFork_nil ?_)
          all_goals go_wp2
          go_ret
          refine ⟨.slice _ _ _, rfl, ?_, H3.out.grow (by (try show Ex _ _); repeat (first | (with_reducible exact ex_refl _) | (with_reducible assumption) | (with_reducible refine ex_drewL ?_) | (with_reducible refine ex_appR ?_ _) | (with_reducible refine ex_wx ?_ _) | (with_reducible refine ex_drew ?_) | (with_reducible refine ex_alloc ?_ _))), hzz.trans (Mt.ex (w := W5) (by (try show Ex _ _); repeat (first | (with_reducible exact ex_refl _) | (with_reducible assumption) | (with_reducible refine ex_drewL ?_) | (with_reducible refine ex_appR ?_ _) | (with_reducible refine ex_wx ?_ _) | (with_reducible refine ex_drew ?_) | (with_reducible refine ex_alloc ?_ _))))⟩
          exact slt_zero (by decide) (fun h => by cases h)
        · have hc2 : ¬ c = pl := fun h => hc h.symm
          have hc3 : ¬ (c : Int) = pl := by omega
          refine wp_region_fork (W5) (.look 0 (.look 1 (.look 2 (.look 3 (.look 4 (.look 5 (.look 6 (.look 7 (.look 8 (.look 9 (.look 10 (.look 11 (.look 12 (.look 13 (.look 14 (.look 15 (.look 16 (.look 17 (.look 18 .done))))))))))))))))))) (by (try show Ex _ _); repeat (first | (with_reducible exact ex_refl _) | (with_reducible assumption) | (with_reducible refine ex_drewL ?_) | (with_reducible refine ex_appR ?_ _) | (with_reducible refine ex_wx ?_ _) | (with_reducible refine ex_drew ?_) | (with_reducible refine ex_alloc ?_ _))) (by kernel_rfl) (by kernel_rfl) (fun _ _ d _ _ h => by cases d <;> exact h) ?_
          simp only [Fk.ops, nth]
          repeat (first | ((with_reducible refine wpFork_look ?_); go_big_quiet_step (fail); (try (with_reducible refine wpQuiet_nil ?_))) | (with_reducible refine wpFork_eff ?_) | ((with_reducible refine effT_F ?_ ?_); (focus rfl); go_simp) | ((with_reducible refine effT_T ?_ ?_); (focus rfl); (try dsimp only); go_wp2_with (fail); refine mixQ_mk (by (try show Ex _ _); repeat (first | (with_reducible exact ex_refl _) | (with_reducible assumption) | (with_reducible refine ex_drewL ?_) | (with_reducible refine ex_appR ?_ _) | (with_reducible refine ex_wx ?_ _) | (with_reducible refine ex_drew ?_) | (with_reducible refine ex_alloc ?_ _))) ?_))
          all_goals (with_reducible refine wpFork_nil ?_)
          all_goals go_wp2
          all_goals (try (exfalso; omega))
          all_goals (try contradiction)
          go_ret
          exact ⟨.slice _ _ _, rfl, SlT.ex (SlT.cut HS.out pl n (by omega)) (by (try show Ex _ _); repeat (first | (with_reducible exact ex_refl _) | (with_reducible assumption) | (with_reducible refine ex_drewL ?_) | (with_reducible refine ex_appR ?_ _) | (with_reducible refine ex_wx ?_ _) | (with_reducible refine ex_drew ?_) | (with_reducible refine ex_alloc ?_ _))), H3.out.grow (by (try show Ex _ _); repeat (first | (with_reducible exact ex_refl _) | (with_reducible assumption) | (with_reducible refine ex_drewL ?_) | (with_reducible refine ex_appR ?_ _) | (with_reducible refine ex_wx ?_ _) | (with_reducible refine ex_drew ?_) | (with_reducible refine ex_alloc ?_ _))), hzz.trans (Mt.ex (w := W5) (by (try show Ex _ _); repeat (first | (with_reducible exact ex_refl _) | (with_reducible assumption) | (with_reducible refine ex_drewL ?_) | (with_reducible refine ex_appR ?_ _) | (with_reducible refine ex_wx ?_ _) | (with_reducible refine ex_drew ?_) | (with_reducible refine ex_alloc ?_ _))))⟩
    · have e1 : (l.length : Int) - pl < n := by omega
      have hr : rawP l n ⟨pl, 0, bad⟩ = ([], ⟨pl, failI 0 7, bad⟩) := by unfold rawP; rw [if_neg (fun h => h1 h.2)]
      rw [hr]
      clear hr h
      go_enter Tryd.func96, Tryd.ntmps96
      go_wp2_with (first | (go_at_call 97; (with_reducible refine (HL.out _ H.out).mono ?_); rintro e w2 ⟨rfl, H2, zz2⟩; replace H2 := Lib.hid H2) | (go_at_call 98; (with_reducible refine (HF.out _ H2.out _).mono ?_); rintro e w3 ⟨rfl, H3, zz3⟩; replace H3 := Lib.hid H3))
      go_ret
      exact ⟨_, rfl, slt_zero (by decide) (fun _ => rfl), H3.out, zz2.trans zz3⟩
  · have e0 : (er != 0) = true := by simpa using h0
    have hr : rawP l n ⟨pl, er, bad⟩ = ([], ⟨pl, er, bad⟩) := by unfold rawP failI; rw [if_neg (fun h => h0 h.1), if_neg h0]
    rw [hr]
    clear hr h
    go_enter Tryd.func96, Tryd.ntmps96
    go_wp2
    go_ret
    exact ⟨_, rfl, slt_zero (by decide) (fun _ => rfl), H.out, Mt.refl _ _ _⟩
theorem raw_len (l : List UInt8) (n : Nat) (s : Rs) : (rawP l n s).1.length ≤ n := by
  unfold rawP; split
  · simp only; rw [List.length_take]; omega
  · simp
theorem or0 (b : UInt8) : bits BinOp.or IntKind.u64 0 (bn b) = bn b := by
  have h : ∀ y : Fin 256, bits BinOp.or IntKind.u64 0 ((y.val : Nat) : Int) = ((y.val : Nat) : Int) := by decide +kernel
  exact h ⟨b.toNat, b.toNat_lt⟩
theorem num1_any {A w : World} {Z p q bm : Nat} {xs : Value × Value × Value} {v : Value} {l : List UInt8} {s : Rs} {m : Ms} (h : RdM A w Z p q bm xs v l s m) :
    Calls Tryd.prog 87 #[PT q, I 1] w fun x w' => x = .returned (.int .u64 (bn (u8P l s).1)) ∧ RdM A w' Z p q bm xs v l (u8P l s).2 m ∧ Mt p q w w' := by
  have HN := next_any h 1 (by omega)
  rw [show I ((1 : Nat) : Int) = I 1 from rfl] at HN
  replace HN := Lib.hid HN
  have hlen := raw_len l 1 s
  have HU : Hid ((u8P l s).1 = (rawP l 1 s).1[0]?.getD 0) := Lib.hid rfl
  have HR : Hid ((u8P l s).2 = (rawP l 1 s).2) := Lib.hid rfl
  generalize rawP l 1 s = r at *
  obtain ⟨d, s1⟩ := r
  simp only at HN hlen HU HR
  rw [HU.out, HR.out]
  clear HU HR
  have hd : d = [] ∨ ∃ b, d = [b] := by
    match d, hlen with
    | [], _ => exact Or.inl rfl
    | [b], _ => exact Or.inr ⟨b, rfl⟩
    | _ :: _ :: _, h => simp at h
  rcases hd with rfl | ⟨b, rfl⟩
  · rw [show bn (([] : List UInt8)[0]?.getD 0) = 0 from by simp [bn]]
    go_enter Tryd.func87, Tryd.ntmps87
    go_wp2_with (go_at_call 96; (with_reducible refine (HN.out).mono ?_); rintro e w2 ⟨u, rfl, hs, H2, zz2⟩; obtain ⟨a, c, rfl, _⟩ := hs.out; replace H2 := Lib.hid H2)
    go_loopw [4, 11] (fun x i W => x = .int .u64 0 ∧ i = I 0 ∧ Hid (RdM A W Z p q bm xs v l s1 m) ∧ Mt p q w2 W) (fun _ _ _ => 0)
    case atStart => exact ⟨rfl, rfl, H2, Mt.refl _ _ _⟩
    case round =>
      obtain ⟨rfl, rfl, H3, zz3⟩ := hrel
      go_wp2
      go_ret
      exact ⟨rfl, H3.out, zz2.trans zz3⟩
  · rw [show bn ([b][0]?.getD 0) = bn b from rfl]
    have hwr : IntKind.u64.wrap (bn b) = bn b := by rw [IntKind.wrap_u64]; have := b.toNat_lt; unfold bn; omega
    have hor : bits BinOp.or IntKind.u64 0 (bn b) = bn b := or0 b
    go_enter Tryd.func87, Tryd.ntmps87
    go_wp2_with (go_at_call 96; (with_reducible refine (HN.out).mono ?_); rintro e w2 ⟨u, rfl, hs, H2, zz2⟩; obtain ⟨a, c, rfl, e1, e2, e3, hr⟩ := hs.out; replace H2 := Lib.hid H2)
    have HRw := Lib.hid (fun W (k : Ex w2 W) => (hr.ex k).row (i := 0) (by simp))
    clear hr hs
    go_loopw [4, 11] (fun x i W => ∃ k : Nat, k ≤ 1 ∧ i = I k ∧ x = .int .u64 (if k = 0 then 0 else bn b) ∧ Ex w2 W) (fun _ i _ => 1 - (intOf i).toNat)
    case atStart => exact ⟨0, by omega, rfl, rfl, ex_refl _⟩
    case round =>
      obtain ⟨k, hk, rfl, rfl, hw⟩ := hrel
      by_cases hk0 : k = 0
      · subst hk0
        obtain ⟨g, off, rfl, hg, hcell⟩ := HRw.out _ hw
        rw [Nat.add_zero, show gF [b] 0 = b from rfl] at hcell
        go_wp2
        refine ⟨⟨1, by omega, rfl, ?_, hw⟩, by simp [intOf]⟩
        rfl
      · obtain rfl : k = 1 := by omega
        go_wp2
        go_ret
        exact ⟨rfl, H2.out.grow (by (try show Ex _ _); repeat (first | (with_reducible exact ex_refl _) | (with_reducible assumption) | (with_reducible refine ex_drewL ?_) | (with_reducible refine ex_appR ?_ _) | (with_reducible refine ex_wx ?_ _) | (with_reducible refine ex_drew ?_) | (with_reducible refine ex_alloc ?_ _))), zz2.trans (Mt.ex (w := w2) (by (try show Ex _ _); repeat (first | (with_reducible exact ex_refl _) | (with_reducible assumption) | (with_reducible refine ex_drewL ?_) | (with_reducible refine ex_appR ?_ _) | (with_reducible refine ex_wx ?_ _) | (with_reducible refine ex_drew ?_) | (with_reducible refine ex_alloc ?_ _))))⟩
theorem u8_any {A w : World} {Z p q bm : Nat} {xs : Value × Value × Value} {v : Value} {l : List UInt8} {s : Rs} {m : Ms} (h : RdM A w Z p q bm xs v l s m) :
    Calls Tryd.prog 70 #[PT q] w fun x w' => x = .returned (B (u8P l s).1) ∧ RdM A w' Z p q bm xs v l (u8P l s).2 m ∧ Mt p q w w' := by
  have HN := Lib.hid (num1_any h)
  generalize u8P l s = r at *
  obtain ⟨b, s1⟩ := r
  simp only at HN ⊢
  have hwr : IntKind.u8.wrap (bn b) = bn b := by rw [IntKind.wrap_u8]; have := b.toNat_lt; unfold bn; omega
  go_enter Tryd.func70, Tryd.ntmps70
  go_wp2_with (go_at_call 87; (with_reducible refine (HN.out).mono ?_); rintro e w2 ⟨rfl, H2, zz2⟩; replace H2 := Lib.hid H2)
  go_ret
  exact ⟨rfl, H2.out, zz2⟩
theorem rraw_any {A w : World} {Z p q bm : Nat} {xs : Value × Value × Value} {v : Value} {l : List UInt8} {s : Rs} {m : Ms} (h : RdM A w Z p q bm xs v l s m) (n : Nat) (hn : n ≤ 1000000) :
    Calls Tryd.prog 91 #[PT q, I n] w fun x w' => ∃ u, x = .returned u ∧ OwnL w' w.heap.size u (rawP l n s).1 ∧ RdM A w' Z p q bm xs v l (rawP l n s).2 m ∧ Mt p q w w' := by
  have HN := Lib.hid (next_any h n hn)
  have hlen := raw_len l n s
  generalize rawP l n s = r at *
  obtain ⟨d, s1⟩ := r
  simp only at HN hlen ⊢
  go_enter Tryd.func91, Tryd.ntmps91
  go_wp2_with (first | (go_at_call 96; (with_reducible refine (HN.out).mono ?_); rintro e w2 ⟨u, rfl, hs, H2, zz2⟩; replace H2 := Lib.hid H2; replace hs := Lib.hid hs) | (go_at_call 24; (with_reducible refine (cloneS_any _ _ _ hs.out (by omega)).mono ?_); rintro e w3 ⟨u3, rfl, hO, X, rfl⟩))
  go_ret
  exact ⟨_, rfl, owns_low hO zz2.size, H2.out.grow (by (try show Ex _ _); repeat (first | (with_reducible exact ex_refl _) | (with_reducible assumption) | (with_reducible refine ex_drewL ?_) | (with_reducible refine ex_appR ?_ _) | (with_reducible refine ex_wx ?_ _) | (with_reducible refine ex_drew ?_) | (with_reducible refine ex_alloc ?_ _))), zz2.trans (Mt.ex (w := w2) (by (try show Ex _ _); repeat (first | (with_reducible exact ex_refl _) | (with_reducible assumption) | (with_reducible refine ex_drewL ?_) | (with_reducible refine ex_appR ?_ _) | (with_reducible refine ex_wx ?_ _) | (with_reducible refine ex_drew ?_) | (with_reducible refine ex_alloc ?_ _))))⟩
theorem at_any {A w : World} {Z p q bm : Nat} {xs : Value × Value × Value} {v : Value} {l : List UInt8} {s : Rs} {m : Ms} (h : RdM A w Z p q bm xs v l s m) :
    Calls Tryd.prog 88 #[PT q] w fun x w' => x = .returned (I s.pl) ∧ w' = w := by
  obtain ⟨⟨q0, q1, q2, qf1, qf2⟩, _, hqz, _⟩ := h.cells
  clear h
  go_enter Tryd.func88, Tryd.ntmps88
  go_wp2
  go_ret
  exact ⟨rfl, rfl⟩
theorem goto_any {A w : World} {Z p q bm : Nat} {xs : Value × Value × Value} {v : Value} {l : List UInt8} {s : Rs} {m : Ms} (h : RdM A w Z p q bm xs v l s m) (n : Nat) (hn : n ≤ l.length - s.pl) :
    Calls Tryd.prog 89 #[PT q, I n] w fun x w' => x = .returned (.tuple #[]) ∧ RdM A w' Z p q bm xs v l { s with pl := if s.er = 0 then s.pl + n else s.pl } m ∧ Mt p q w w' := by
  obtain ⟨⟨q0, q1, q2, qf1, qf2⟩, _, hqz, _⟩ := h.cells
  have hle := h.le
  have hll := h.ll
  obtain ⟨pl, er, bad⟩ := s
  simp only at q1 q2 hle hn ⊢
  have H := Lib.hid h
  have HL := Lib.hid (fun W (hW : RdM A W Z p q bm xs v l ⟨pl, er, bad⟩ m) => left_any hW)
  simp only at HL
  clear h
  by_cases h0 : er = 0
  · subst h0
    rw [if_pos rfl]
    have e1 : ¬ ((l.length : Int) - pl < n) := by omega
    have e2 : ¬ ((n : Int) < -(pl : Int)) := by omega
    have e3 : wrap64 ((pl : Int) + n) = (pl : Int) + n := by unfold wrap64; omega
    have e4 : wrap64 (-(pl : Int)) = -(pl : Int) := by unfold wrap64; omega
    go_enter Tryd.func89, Tryd.ntmps89
    go_wp2_with (go_at_call 97; (with_reducible refine (HL.out _ H.out).mono ?_); rintro e w2 ⟨rfl, H2, zz2⟩; obtain ⟨⟨r0, r1, r2, rf1, rf2⟩, _, hrz, _⟩ := H2.cells; simp only at r1 r2; replace H2 := Lib.hid H2)
    go_end0
    have H3 := H2.out.setPl (n := pl + n) (by omega)
    rw [Int.natCast_add] at H3
    exact ⟨rfl, H3, zz2.setQ _ _⟩
  · rw [if_neg h0]
    have e0 : (er != 0) = true := by simpa using h0
    go_enter Tryd.func89, Tryd.ntmps89
    go_wp2
    go_end0
    exact ⟨rfl, H.out, Mt.refl _ _ _⟩
end Go.Proofs.YtpcfkjeikhehaaaDoor
