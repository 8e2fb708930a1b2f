import Derived.Test.YtpcfkjeikhehaaaDoorMRdU

/- The document's taker takes a field of entries. -/
set_option linter.unusedSimpArgs false
set_option linter.unusedVariables false
set_option maxRecDepth 20000
namespace Go.Proofs.YtpcfkjeikhehaaaDoor
open Go.RowKit
theorem wpAppE2 {ops : Array Oper} {rest : List Oper} {o : Oper} {a : Act} {w : World} {Q : Exit → Act → World → Prop} (s x : Operand) (hgd : o.guard = none)
    (ho : o.op = .call { callee := .builtin .append, args := #[s, x], argTypes := #[36, 36] })
    {Z : Nat} {v dv : Value} {l : List En} {e : En} {g : Nat} (hown : OwnE w Z v l) (hs : a.eval s = v) (hx : a.eval x = .slice (some ⟨g, 0, none⟩) 1 1)
    (c0 : w.cell? ⟨g, 0, none⟩ = some (L e.1)) (c1 : w.cell? ⟨g, 1, none⟩ = some (I e.2.1)) (c2 : w.cell? ⟨g, 2, none⟩ = some dv) (hd : SlT w dv e.2.2) (hdb : ∀ b, dv.ownBlock = some b → Z ≤ b ∧ b < w.heap.size ∧ v.ownBlock ≠ some b ∧ NoFz w b) (hlen : l.length ≤ 10000000) (hZ : Z ≤ w.heap.size)
    (h : ∀ v' w', OwnE w' Z v' (l ++ [e]) → App w w' v v' → wpList Tryd.prog ops Q rest (a.put o.dst v') w') : wpList Tryd.prog ops Q (o :: rest) a w := by
  obtain ⟨es, h1, h2, h3⟩ := hown.out
  obtain ⟨i, hi, h1', h2', h3'⟩ := info_parts appEn.hi
  have hdv : dv.oneCell' = true := by obtain ⟨b, c, rfl, _⟩ := hd.out; rfl
  refine wpList_append_own_at w hgd s x _ ho Z _ i _ _ _ appEn.ht hi h1' h2' h3' appEn.hzs appEn.hsz v _ _ hs h2 ⟨g, 0, none⟩ 1 1 ([(e.1, e.2.1, dv)].flatMap KE) hx (by simp [KE]) (fun j u hj => ?_) (one_cells _ hdv) (by unfold maxLen; omega) (by omega) hZ fun v' w' k1 k2 _ k3 => ?_
  · have hj3 : j < 3 := by have := (List.getElem?_eq_some_iff.1 hj).1; simpa [KE] using this
    have hadd : (⟨g, 0, none⟩ : Addr).add j = ⟨g, j, none⟩ := by unfold Addr.add; split <;> simp_all
    rw [hadd]
    have : j = 0 ∨ j = 1 ∨ j = 2 := by omega
    rcases this with rfl | rfl | rfl
    · rw [c0]; simpa [KE] using hj
    · rw [c1]; simpa [KE] using hj
    · rw [c2]; simpa [KE] using hj
  · have hA : App w w' v v' := ⟨k2.os, k2.tape, k2.output, k2.size, fun k hk hne => k2.block k hk (fun e => hne e.symm), by
      rcases k3 with k3 | k3
      · exact Or.inl k3
      · exact Or.inr ⟨_, k3, Nat.le_refl _⟩⟩
    rw [← List.flatMap_append] at k1
    refine h v' w' ⟨es ++ [(e.1, e.2.1, dv)], by simp [h1], by rw [List.length_append, List.length_singleton]; exact k1, fun j ee he => ?_⟩ hA
    rcases Nat.lt_or_ge j l.length with hj | hj
    · rw [List.getElem?_append_left hj] at he
      obtain ⟨dv2, q1, q2, q3⟩ := h3 j ee he
      refine ⟨dv2, by rw [List.getElem?_append_left (by omega)]; exact q1, q2.app hA (fun b hb => (q3 b hb).2.2.1), fun b hb => ⟨(q3 b hb).1, Nat.lt_of_lt_of_le (q3 b hb).2.1 hA.size, fun hv => ?_, (q3 b hb).2.2.2.same (hA.block b (q3 b hb).2.1 (q3 b hb).2.2.1)⟩⟩
      rcases hA.own with h9 | ⟨b', h9, h10⟩
      · exact (q3 b hb).2.2.1 (h9 ▸ hv)
      · rw [h9] at hv
        obtain rfl := Option.some.inj hv
        have := (q3 _ hb).2.1
        omega
    · rw [List.getElem?_append_right hj] at he
      have hj0 : j - l.length = 0 := by
        rcases Nat.eq_zero_or_pos (j - l.length) with h9 | h9
        · exact h9
        · rw [List.getElem?_eq_none (by simp; omega)] at he; cases he
      rw [hj0] at he
      obtain rfl : e = ee := by simpa using he
      refine ⟨dv, by rw [List.getElem?_append_right (by omega), h1, hj0]; rfl, hd.app hA fun b hb => (hdb b hb).2.2.1, fun b hb => ⟨(hdb b hb).1, Nat.lt_of_lt_of_le (hdb b hb).2.1 hA.size, fun hv => ?_, (hdb b hb).2.2.2.same (hA.block b (hdb b hb).2.1 (hdb b hb).2.2.1)⟩⟩
      rcases hA.own with h9 | ⟨b', h9, h10⟩
      · exact (hdb b hb).2.2.1 (h9 ▸ hv)
      · rw [h9] at hv
        obtain rfl := Option.some.inj hv
        have := (hdb _ hb).2.1
        omega
/-- One round: the entry, the state behind it. -/
def stepE (s : UInt64 × List UInt8 × Bool) : En × UInt64 × List UInt8 × Bool :=
  let a := numD s.2.1 s.2.2
  let t := s.1 + UInt64.ofNat a.1
  let b := oneD a.2.1 a.2.2
  let c := numD b.2.1 b.2.2
  let d := rawD c.1 c.2.1 c.2.2
  ((t, (b.1.toNat : Int), d.1), t, d.2)
def seqE (s : UInt64 × List UInt8 × Bool) : Nat → List En × UInt64 × List UInt8 × Bool
  | 0 => ([], s)
  | k + 1 => ((seqE s k).1 ++ [(stepE (seqE s k).2).1], (stepE (seqE s k).2).2)
theorem numD_bad {r : List UInt8} {b : Bool} (h : (numD r b).2.2 = false) : b = false ∧ (numD r b).2.1.length + 1 ≤ r.length := by
  unfold numD at h ⊢
  simp only [Bool.or_eq_false_iff] at h
  refine ⟨h.1, ?_⟩
  have h1 := (longN_le r).1
  have h2 : 1 ≤ (longN (longL r)).2 := by
    unfold longN
    cases hl : longL r with
    | none => rw [hl] at h; simp at h
    | some x =>
      have key : ∀ (l : List UInt8) (y i : Nat) (z : Nat × Nat), longGo l y i = some z → 1 ≤ z.2 := by
        intro l
        induction l with
        | nil => intro y i z hz; simp [longGo] at hz
        | cons c l ih =>
          intro y i z hz
          rw [longGo_cons] at hz
          split at hz
          · cases hz
          · split at hz
            · have := Option.some.inj hz; subst this; simp
            · exact ih _ _ _ hz
      exact key r 0 0 x hl
  simp only [List.length_drop]
  omega
theorem numD_len (r : List UInt8) (b : Bool) : (numD r b).2.1.length ≤ r.length := by unfold numD; simp
theorem rawD_bad {n : Nat} {r : List UInt8} {b : Bool} (h : (rawD n r b).2.2 = false) : b = false := by
  unfold rawD at h
  split at h
  · cases h
  · rename_i h2
    cases b
    · rfl
    · exact absurd (Or.inl rfl) h2
theorem rawD_len (n : Nat) (r : List UInt8) (b : Bool) : (rawD n r b).2.1.length ≤ r.length := by unfold rawD; split <;> simp
theorem stepE_bad {s : UInt64 × List UInt8 × Bool} (h : (stepE s).2.2.2 = false) : s.2.2 = false ∧ (stepE s).2.2.1.length + 1 ≤ s.2.1.length := by
  unfold stepE oneD at h ⊢
  simp only at h ⊢
  have h1 := rawD_bad h
  have h2 := (numD_bad h1).1
  have h3 := rawD_bad h2
  have h4 := numD_bad h3
  have l1 := rawD_len (numD (rawD 1 (numD s.2.1 s.2.2).2.1 (numD s.2.1 s.2.2).2.2).2.1 (rawD 1 (numD s.2.1 s.2.2).2.1 (numD s.2.1 s.2.2).2.2).2.2).1 (numD (rawD 1 (numD s.2.1 s.2.2).2.1 (numD s.2.1 s.2.2).2.2).2.1 (rawD 1 (numD s.2.1 s.2.2).2.1 (numD s.2.1 s.2.2).2.2).2.2).2.1 (numD (rawD 1 (numD s.2.1 s.2.2).2.1 (numD s.2.1 s.2.2).2.2).2.1 (rawD 1 (numD s.2.1 s.2.2).2.1 (numD s.2.1 s.2.2).2.2).2.2).2.2
  have l2 := numD_len (rawD 1 (numD s.2.1 s.2.2).2.1 (numD s.2.1 s.2.2).2.2).2.1 (rawD 1 (numD s.2.1 s.2.2).2.1 (numD s.2.1 s.2.2).2.2).2.2
  have l3 := rawD_len 1 (numD s.2.1 s.2.2).2.1 (numD s.2.1 s.2.2).2.2
  exact ⟨h4.1, by omega⟩
theorem seqE_len (s : UInt64 × List UInt8 × Bool) : ∀ k, (seqE s k).1.length = k ∧ ((seqE s k).2.2.2 = false → k + (seqE s k).2.2.1.length ≤ s.2.1.length)
  | 0 => ⟨rfl, fun _ => by simp [seqE]⟩
  | k + 1 => by
    obtain ⟨h1, h2⟩ := seqE_len s k
    refine ⟨by simp [seqE, h1], fun h => ?_⟩
    rw [seqE] at h ⊢
    obtain ⟨h3, h4⟩ := stepE_bad h
    have := h2 h3
    simp only
    omega
set_option maxHeartbeats 4000000 in
theorem tfield_e {A w : World} {Z p : Nat} {rest : List UInt8} {bad : Bool} (m : Ms) (ma da : Option Addr) (mc dc mn dn : Nat) (h : Tk A w Z p rest bad) :
    Calls Tryd.prog 52 #[PT p, MV m NIL (.slice ma mn mc) (.slice da dn dc), .int .u8 101] w fun x w' => ∃ k : Nat, k ≤ (numD rest bad).1 ∧ (k = (numD rest bad).1 ∨ (seqE (m.pt, (numD rest bad).2) k).2.2.2 = true) ∧
      (∃ ev, x = .returned (MV { m with es := (seqE (m.pt, (numD rest bad).2) k).1 } ev (.slice ma mn mc) (.slice da dn dc)) ∧ OwnE w' w.heap.size ev (seqE (m.pt, (numD rest bad).2) k).1) ∧
      Tk A w' Z p (seqE (m.pt, (numD rest bad).2) k).2.2.1 (seqE (m.pt, (numD rest bad).2) k).2.2.2 ∧ Mt p p w w' := by
  have hp := h.hp.2
  have hpA := h.hp.1
  have hz := h.hz
  have hll := h.ll
  have HN := Lib.hid (fun W (k : Ex w W) => tnum_any (h.grow k))
  have hx : (numD rest bad).1 < 18446744073709551616 := (longN_le rest).2
  have hl0 := numD_len rest bad
  generalize numD rest bad = r at *
  obtain ⟨n, r1, b1⟩ := r
  simp only at HN hx hl0 ⊢
  obtain ⟨sq, hsq⟩ : ∃ sq, sq = seqE (m.pt, r1, b1) := ⟨_, rfl⟩
  have hq0 : Hid (sq 0 = ([], m.pt, r1, b1)) := Lib.hid (by rw [hsq]; rfl)
  have hq1 : Hid (∀ k, sq (k + 1) = ((sq k).1 ++ [(stepE (sq k).2).1], (stepE (sq k).2).2)) := Lib.hid fun k => by rw [hsq]; rfl
  have hq2 : Hid (∀ k, (sq k).1.length = k ∧ ((sq k).2.2.2 = false → k + (sq k).2.2.1.length ≤ r1.length)) := Lib.hid fun k => by rw [hsq]; exact seqE_len _ k
  rw [← hsq]
  clear hsq
  obtain ⟨ea, ec, en, hev⟩ : ∃ (ea : Option Addr) (ec en : Nat), ea = none ∧ ec = 0 ∧ en = 0 := ⟨_, _, _, rfl, rfl, rfl⟩
  rw [show NIL = Value.slice ea en ec by rw [hev.1, hev.2.1, hev.2.2]]
  replace hev := Lib.hid hev
  obtain ⟨W1, hW1⟩ : ∃ W1, (w.alloc (.cells #[I m.kd, I m.fr, I m.to, L m.tm, L m.pi, L m.pt, .slice ea en ec, L m.cm, .bool m.ok, .slice ma mn mc, .slice da dn dc] 41)).alloc (.cells ZM 41) = W1 := ⟨_, rfl⟩
  have hk : Ex w W1 := by rw [← hW1]; exact ex_alloc (ex_alloc (ex_refl _) _) _
  have hb0 : W1.heap[w.heap.size]? = some (.cells #[I m.kd, I m.fr, I m.to, L m.tm, L m.pi, L m.pt, .slice ea en ec, L m.cm, .bool m.ok, .slice ma mn mc, .slice da dn dc] 41 (0, 0)) := by rw [← hW1, ex_of_alloc _ _ _ (by simp [go_sem])]; exact heap_alloc_new w _
  have hb1 : W1.heap[w.heap.size + 1]? = some (.cells ZM 41 (0, 0)) := by rw [← hW1]; exact alloc_at (by simp [go_sem])
  have hs1 : W1.heap.size = w.heap.size + 2 := by rw [← hW1]; simp [go_sem]
  replace hb0 := Lib.hid hb0
  replace hb1 := Lib.hid hb1
  have k5 : W1.cell? ⟨w.heap.size, 5, none⟩ = some (L m.pt) := (block_cell hb0.out rfl).1
  have hbz1 : w.heap.size < W1.heap.size := by omega
  clear h
  go_enter Tryd.func52, Tryd.ntmps52
  go_wp2_with (go_at_call 51; (with_reducible refine (HN.out _ hk).mono ?_); rintro e w1 ⟨rfl, H1, M1⟩; replace H1 := Lib.hid H1; replace M1 := Lib.hid M1)
  clear k5
  go_loopw [8, 10] (fun t i W => ∃ (k : Nat) (ev : Value), k ≤ n ∧ i = .int .u64 k ∧ t = L (sq k).2.1 ∧ Hid (Tk A W Z p (sq k).2.2.1 (sq k).2.2.2) ∧ Hid (Mt p p w W) ∧ Hid (OwnE W (w.heap.size + 2) ev (sq k).1) ∧ Hid (W.heap[w.heap.size]? = some (.cells #[I m.kd, I m.fr, I m.to, L m.tm, L m.pi, L m.pt, ev, L m.cm, .bool m.ok, .slice ma mn mc, .slice da dn dc] 41 (0, 0))) ∧ Hid (W.heap[w.heap.size + 1]? = some (.cells ZM 41 (0, 0))) ∧ w.heap.size + 2 ≤ W.heap.size) (fun _ i _ => n - (intOf i).toNat)
  case atStart =>
    have hz1 := M1.out.size
    refine ⟨0, .slice ea en ec, by omega, rfl, by rw [hq0.out], Lib.hid (by rw [hq0.out]; exact H1.out), Lib.hid ((Mt.ex hk).trans M1.out), Lib.hid ?_, Lib.hid ((M1.out.same w.heap.size (by omega) (by omega) (by omega)).trans hb0.out), Lib.hid ((M1.out.same (w.heap.size + 1) (by omega) (by omega) (by omega)).trans hb1.out), by omega⟩
    obtain ⟨rfl, rfl, rfl⟩ := hev.out
    rw [hq0.out]
    exact ownE_nil _ _
  case round =>
    obtain ⟨k, ev, hk1, rfl, rfl, HT, HM, HOw, HBk, HBr, hzr⟩ := hrel
    have hqk := Lib.hid (hq1.out k)
    have hqn := Lib.hid (hq2.out k)
    generalize hsk : sq k = sk at *
    replace hsk := Lib.hid hsk
    obtain ⟨bs, tt, rs, bd⟩ := sk
    simp only at HT HOw hqn hqk
    obtain ⟨ta, tc, htb, _⟩ := HT.out.bp
    have t1 := (block_cell (o := 1) (v := .bool bd) htb rfl).1
    have tz := HT.out.lt
    obtain ⟨f1, f2, hev2, _⟩ := OwnE.form HOw.out
    subst hev2
    have hbl := Lib.hid hqn.out.1
    by_cases hlt : k < n
    · have hlt2 : (k : Int) < n := by omega
      cases bd with
      | false =>
        have hbl2 := hqn.out.2 rfl
        have HU1 := Lib.hid (tnum_any HT.out)
        have hx1 : (numD rs false).1 < 18446744073709551616 := (longN_le rs).2
        have HU2 := Lib.hid (fun W (hW : Tk A W Z p (numD rs false).2.1 (numD rs false).2.2) => tone_any hW)
        have HU3 := Lib.hid (fun W (hW : Tk A W Z p (oneD (numD rs false).2.1 (numD rs false).2.2).2.1 (oneD (numD rs false).2.1 (numD rs false).2.2).2.2) => tnum_any hW)
        have hx3 : (numD (oneD (numD rs false).2.1 (numD rs false).2.2).2.1 (oneD (numD rs false).2.1 (numD rs false).2.2).2.2).1 < 18446744073709551616 := (longN_le _).2
        have HU4 := Lib.hid (fun W (hW : Tk A W Z p (numD (oneD (numD rs false).2.1 (numD rs false).2.2).2.1 (oneD (numD rs false).2.1 (numD rs false).2.2).2.2).2.1 (numD (oneD (numD rs false).2.1 (numD rs false).2.2).2.1 (oneD (numD rs false).2.1 (numD rs false).2.2).2.2).2.2) => traw_any hW _ hx3)
        have hSt : stepE (tt, rs, false) = ((tt + UInt64.ofNat (numD rs false).1, ((oneD (numD rs false).2.1 (numD rs false).2.2).1.toNat : Int), (rawD (numD (oneD (numD rs false).2.1 (numD rs false).2.2).2.1 (oneD (numD rs false).2.1 (numD rs false).2.2).2.2).1 (numD (oneD (numD rs false).2.1 (numD rs false).2.2).2.1 (oneD (numD rs false).2.1 (numD rs false).2.2).2.2).2.1 (numD (oneD (numD rs false).2.1 (numD rs false).2.2).2.1 (oneD (numD rs false).2.1 (numD rs false).2.2).2.2).2.2).1), tt + UInt64.ofNat (numD rs false).1, (rawD (numD (oneD (numD rs false).2.1 (numD rs false).2.2).2.1 (oneD (numD rs false).2.1 (numD rs false).2.2).2.2).1 (numD (oneD (numD rs false).2.1 (numD rs false).2.2).2.1 (oneD (numD rs false).2.1 (numD rs false).2.2).2.2).2.1 (numD (oneD (numD rs false).2.1 (numD rs false).2.2).2.1 (oneD (numD rs false).2.1 (numD rs false).2.2).2.2).2.2).2) := rfl
        rw [hSt] at hqk
        clear hSt
        generalize rawD (numD (oneD (numD rs false).2.1 (numD rs false).2.2).2.1 (oneD (numD rs false).2.1 (numD rs false).2.2).2.2).1 (numD (oneD (numD rs false).2.1 (numD rs false).2.2).2.1 (oneD (numD rs false).2.1 (numD rs false).2.2).2.2).2.1 (numD (oneD (numD rs false).2.1 (numD rs false).2.2).2.1 (oneD (numD rs false).2.1 (numD rs false).2.2).2.2).2.2 = q4 at *
        generalize numD (oneD (numD rs false).2.1 (numD rs false).2.2).2.1 (oneD (numD rs false).2.1 (numD rs false).2.2).2.2 = q3 at *
        generalize oneD (numD rs false).2.1 (numD rs false).2.2 = q2 at *
        generalize numD rs false = q1 at *
        obtain ⟨x1, g1, h1⟩ := q1
        obtain ⟨x2, g2, h2⟩ := q2
        obtain ⟨x3, g3, h3⟩ := q3
        obtain ⟨x4, g4, h4⟩ := q4
        simp only at HU1 HU2 HU3 HU4 hqk hx1 hx3
        rw [L_nat x1 hx1] at HU1
        generalize UInt64.ofNat x1 = y1 at *
        have hadd : IntKind.u64.wrap (ln tt + ln y1) = ln (tt + y1) := by
          rw [IntKind.wrap_u64]
          show ((tt.toNat : Int) + y1.toNat) % 18446744073709551616 = ((tt + y1).toNat : Int)
          rw [UInt64.toNat_add]; omega
        generalize tt + y1 = t2 at *
        have hwr : wrap64 (bn x2) = bn x2 := by have := x2.toNat_lt; unfold bn wrap64; omega
        have hpz : p < w.heap.size + 2 := by omega
        go_wp2_with (first | (go_at_call 51; (with_reducible refine (HU1.out).mono ?_); rintro e w4 ⟨rfl, H4, M4⟩; replace H4 := Lib.hid H4) | (go_at_call 50; (with_reducible refine (HU2.out _ H4.out).mono ?_); rintro e w5 ⟨rfl, H5, M5⟩; replace M5 := M4.trans M5; replace H5 := Lib.hid H5))
        have hz5 := M5.size
        have hb5 := (M5.same w.heap.size (by omega) (by omega) (by omega)).trans HBk.out
        have c65 := (block_cell (o := 6) (v := .slice f1 bs.length f2) hb5 rfl).1
        have hbz5 : w.heap.size < w5.heap.size := by omega
        replace hb5 := Lib.hid hb5
        replace M5 := Lib.hid M5
        clear t1 tz htb
        refine wp_region_forkH (fun w' => ∃ X, w' = ix X) (.look 0 (.look 2 (.look 3 (.look 4 (.look 5 (.fork 1 (.eff 6 (.eff 7 (.look 8 (.eff 9 (.eff 10 (.look 11 (.eff 12 .done))))))) 6 (.fork 1 (.eff 7 (.look 8 (.eff 9 (.eff 10 (.look 11 (.eff 12 .done)))))) 7 (.look 8 (.fork 1 (.eff 9 (.eff 10 (.look 11 (.eff 12 .done)))) 9 (.eff 1 (.eff 10 (.look 11 (.eff 12 .done))))))))))))) (⟨_, rfl⟩) (by kernel_rfl) (by kernel_rfl) (fun _ _ d _ _ h => by cases d <;> exact h) ?_
        simp only [Fk.ops, nth]
        repeat (first | ((with_reducible refine wpForkH_look ?_); go_big_quiet_step (fail); (try (with_reducible refine wpQuiet_nil ?_))) | (with_reducible refine wpForkH_eff ?_) | ((with_reducible refine effH_F ?_ ?_); (focus rfl); go_simp) | ((with_reducible refine effH_T ?_ ?_); (focus rfl); (try dsimp only); go_wp2_with (first | (go_at_call 51; (with_reducible refine (HU3.out _ (H5.out.grow (by (try show Ex _ _); repeat (first | (with_reducible exact ex_refl _) | (with_reducible assumption) | (with_reducible refine ex_drewL ?_) | (with_reducible refine ex_appR ?_ _) | (with_reducible refine ex_wx ?_ _) | (with_reducible refine ex_drew ?_) | (with_reducible refine ex_alloc ?_ _))))).mono ?_); rintro e w6 ⟨rfl, H6, M6⟩; replace M6 := M5.out.trans ((Mt.ex (w := w5) (by (try show Ex _ _); repeat (first | (with_reducible exact ex_refl _) | (with_reducible assumption) | (with_reducible refine ex_drewL ?_) | (with_reducible refine ex_appR ?_ _) | (with_reducible refine ex_wx ?_ _) | (with_reducible refine ex_drew ?_) | (with_reducible refine ex_alloc ?_ _)))).trans M6); have hz6 := M6.size; have hb6 := (M6.same w.heap.size (by omega) (by omega) (by omega)).trans HBk.out; have c66 := (block_cell (o := 6) (v := .slice f1 bs.length f2) hb6 rfl).1; have hbz6 : w.heap.size < w6.heap.size := (by omega); replace H6 := Lib.hid H6; replace M6 := Lib.hid M6; clear hb6) | (go_at_call 78; (with_reducible refine (HU4.out _ H6.out).mono ?_); rintro e w7 ⟨u, rfl, hO, H7, M7⟩; obtain ⟨ua, uc, rfl, _⟩ := own_form hO; have hrng := World.ownsRow.lt hO; have hnf := (fun b (hb : Value.ownBlock (.slice ua x4.length uc) = some b) => own_nofz hO hb); replace M7 := M6.out.trans M7; have hz7 := M7.size; have hb7 := (M7.same w.heap.size (by omega) (by omega) (by omega)).trans HBk.out; have hbr7 := (M7.same (w.heap.size + 1) (by omega) (by omega) (by omega)).trans HBr.out; obtain ⟨c67, f67⟩ := block_cell (o := 6) (v := .slice f1 bs.length f2) hb7 rfl; have hbz7 : w.heap.size < w7.heap.size := (by omega); have HE7 : Hid (∀ W, Ex w7 W → OwnE W (w.heap.size + 2) (.slice f1 bs.length f2) bs) := Lib.hid (fun W kx => (HOw.out.keep (M7.keep hpz)).ex kx); have HS7 : Hid (∀ W, Ex w7 W → SlT W (.slice ua x4.length uc) x4) := Lib.hid (fun W kx => hO.slt.ex kx); have hdb7 : Hid (∀ b, Value.ownBlock (.slice ua x4.length uc) = some b → w.heap.size + 2 ≤ b ∧ b < w7.heap.size ∧ Value.ownBlock (.slice f1 bs.length f2) ≠ some b ∧ NoFz w7 b) := Lib.hid (fun b hb => ⟨(by have := (hrng b hb).1; omega), (hrng b hb).2, (fun he => by have h1 := (HOw.out.lt b he).2; have h2 := (hrng b hb).1; omega), hnf b hb⟩); clear hrng hnf hO; replace hb7 := Lib.hid hb7; replace hbr7 := Lib.hid hbr7; replace H7 := Lib.hid H7; replace M7 := Lib.hid M7) | (at_builtin; refine wpAppE2 (Z := w.heap.size + 2) (v := .slice f1 bs.length f2) (dv := .slice ua x4.length uc) (l := bs) (e := ((t2, bn x2, x4) : En)) (g := w7.heap.size) _ _ rfl rfl (HE7.out _ (by (try show Ex _ _); repeat (first | (with_reducible exact ex_refl _) | (with_reducible assumption) | (with_reducible refine ex_drewL ?_) | (with_reducible refine ex_appR ?_ _) | (with_reducible refine ex_wx ?_ _) | (with_reducible refine ex_drew ?_) | (with_reducible refine ex_alloc ?_ _)))) rfl rfl (by simp [go_sem]) (by simp [go_sem]) (by simp [go_sem]) (HS7.out _ (by (try show Ex _ _); repeat (first | (with_reducible exact ex_refl _) | (with_reducible assumption) | (with_reducible refine ex_drewL ?_) | (with_reducible refine ex_appR ?_ _) | (with_reducible refine ex_wx ?_ _) | (with_reducible refine ex_drew ?_) | (with_reducible refine ex_alloc ?_ _)))) (fun b hb => ⟨(hdb7.out b hb).1, Nat.lt_of_lt_of_le (hdb7.out b hb).2.1 (by simp [go_sem] <;> omega), (hdb7.out b hb).2.2.1, nofz_ex (hdb7.out b hb).2.2.2 (hdb7.out b hb).2.1 (by (try show Ex _ _); repeat (first | (with_reducible exact ex_refl _) | (with_reducible assumption) | (with_reducible refine ex_drewL ?_) | (with_reducible refine ex_appR ?_ _) | (with_reducible refine ex_wx ?_ _) | (with_reducible refine ex_drew ?_) | (with_reducible refine ex_alloc ?_ _)))⟩) (by have := hbl.out; omega) (by simp [go_sem]; omega) (fun v9 w9 hO9 hA9 => ?_); have hB9 := (below_of_ex (w := w7) (Z := w.heap.size + 2) (by (try show Ex _ _); repeat (first | (with_reducible exact ex_refl _) | (with_reducible assumption) | (with_reducible refine ex_drewL ?_) | (with_reducible refine ex_appR ?_ _) | (with_reducible refine ex_wx ?_ _) | (with_reducible refine ex_drew ?_) | (with_reducible refine ex_alloc ?_ _))) (by omega)).trans (hA9.below (by simp [go_sem]; omega) (fun g hg => ((HE7.out _ (ex_refl _)).lt g hg).1)); obtain ⟨j1, j2, rfl, _⟩ := OwnE.form hO9; have y6 := (below_cellE hB9 (show w.heap.size < w.heap.size + 2 by omega) 6).trans c67; have y7 := (below_frozE hB9 (show w.heap.size < w.heap.size + 2 by omega) 6).trans f67; have hbz9 := Nat.lt_of_lt_of_le hbz7 hB9.size; clear hA9; replace hB9 := Lib.hid hB9; replace hO9 := Lib.hid hO9)); refine mixQH_mk (⟨_, rfl⟩) ?_))
        all_goals (try (with_reducible refine wpForkH_fork ?_ ?_))
        all_goals repeat (first | ((with_reducible refine wpForkH_look ?_); go_big_quiet_step (fail); (try (with_reducible refine wpQuiet_nil ?_))) | (with_reducible refine wpForkH_eff ?_) | ((with_reducible refine effH_F ?_ ?_); (focus rfl); go_simp) | ((with_reducible refine effH_T ?_ ?_); (focus rfl); (try dsimp only); go_wp2_with (first | (go_at_call 51; (with_reducible refine (HU3.out _ (H5.out.grow (by (try show Ex _ _); repeat (first | (with_reducible exact ex_refl _) | (with_reducible assumption) | (with_reducible refine ex_drewL ?_) | (with_reducible refine ex_appR ?_ _) | (with_reducible refine ex_wx ?_ _) | (with_reducible refine ex_drew ?_) | (with_reducible refine ex_alloc ?_ _))))).mono ?_); rintro e w6 ⟨rfl, H6, M6⟩; replace M6 := M5.out.trans ((Mt.ex (w := w5) (by (try show Ex _ _); repeat (first | (with_reducible exact ex_refl _) | (with_reducible assumption) | (with_reducible refine ex_drewL ?_) | (with_reducible refine ex_appR ?_ _) | (with_reducible refine ex_wx ?_ _) | (with_reducible refine ex_drew ?_) | (with_reducible refine ex_alloc ?_ _)))).trans M6); have hz6 := M6.size; have hb6 := (M6.same w.heap.size (by omega) (by omega) (by omega)).trans HBk.out; have c66 := (block_cell (o := 6) (v := .slice f1 bs.length f2) hb6 rfl).1; have hbz6 : w.heap.size < w6.heap.size := (by omega); replace H6 := Lib.hid H6; replace M6 := Lib.hid M6; clear hb6) | (go_at_call 78; (with_reducible refine (HU4.out _ H6.out).mono ?_); rintro e w7 ⟨u, rfl, hO, H7, M7⟩; obtain ⟨ua, uc, rfl, _⟩ := own_form hO; have hrng := World.ownsRow.lt hO; have hnf := (fun b (hb : Value.ownBlock (.slice ua x4.length uc) = some b) => own_nofz hO hb); replace M7 := M6.out.trans M7; have hz7 := M7.size; have hb7 := (M7.same w.heap.size (by omega) (by omega) (by omega)).trans HBk.out; have hbr7 := (M7.same (w.heap.size + 1) (by omega) (by omega) (by omega)).trans HBr.out; obtain ⟨c67, f67⟩ := block_cell (o := 6) (v := .slice f1 bs.length f2) hb7 rfl; have hbz7 : w.heap.size < w7.heap.size := (by omega); have HE7 : Hid (∀ W, Ex w7 W → OwnE W (w.heap.size + 2) (.slice f1 bs.length f2) bs) := Lib.hid (fun W kx => (HOw.out.keep (M7.keep hpz)).ex kx); have HS7 : Hid (∀ W, Ex w7 W → SlT W (.slice ua x4.length uc) x4) := Lib.hid (fun W kx => hO.slt.ex kx); have hdb7 : Hid (∀ b, Value.ownBlock (.slice ua x4.length uc) = some b → w.heap.size + 2 ≤ b ∧ b < w7.heap.size ∧ Value.ownBlock (.slice f1 bs.length f2) ≠ some b ∧ NoFz w7 b) := Lib.hid (fun b hb => ⟨(by have := (hrng b hb).1; omega), (hrng b hb).2, (fun he => by have h1 := (HOw.out.lt b he).2; have h2 := (hrng b hb).1; omega), hnf b hb⟩); clear hrng hnf hO; replace hb7 := Lib.hid hb7; replace hbr7 := Lib.hid hbr7; replace H7 := Lib.hid H7; replace M7 := Lib.hid M7) | (at_builtin; refine wpAppE2 (Z := w.heap.size + 2) (v := .slice f1 bs.length f2) (dv := .slice ua x4.length uc) (l := bs) (e := ((t2, bn x2, x4) : En)) (g := w7.heap.size) _ _ rfl rfl (HE7.out _ (by (try show Ex _ _); repeat (first | (with_reducible exact ex_refl _) | (with_reducible assumption) | (with_reducible refine ex_drewL ?_) | (with_reducible refine ex_appR ?_ _) | (with_reducible refine ex_wx ?_ _) | (with_reducible refine ex_drew ?_) | (with_reducible refine ex_alloc ?_ _)))) rfl rfl (by simp [go_sem]) (by simp [go_sem]) (by simp [go_sem]) (HS7.out _ (by (try show Ex _ _); repeat (first | (with_reducible exact ex_refl _) | (with_reducible assumption) | (with_reducible refine ex_drewL ?_) | (with_reducible refine ex_appR ?_ _) | (with_reducible refine ex_wx ?_ _) | (with_reducible refine ex_drew ?_) | (with_reducible refine ex_alloc ?_ _)))) (fun b hb => ⟨(hdb7.out b hb).1, Nat.lt_of_lt_of_le (hdb7.out b hb).2.1 (by simp [go_sem] <;> omega), (hdb7.out b hb).2.2.1, nofz_ex (hdb7.out b hb).2.2.2 (hdb7.out b hb).2.1 (by (try show Ex _ _); repeat (first | (with_reducible exact ex_refl _) | (with_reducible assumption) | (with_reducible refine ex_drewL ?_) | (with_reducible refine ex_appR ?_ _) | (with_reducible refine ex_wx ?_ _) | (with_reducible refine ex_drew ?_) | (with_reducible refine ex_alloc ?_ _)))⟩) (by have := hbl.out; omega) (by simp [go_sem]; omega) (fun v9 w9 hO9 hA9 => ?_); have hB9 := (below_of_ex (w := w7) (Z := w.heap.size + 2) (by (try show Ex _ _); repeat (first | (with_reducible exact ex_refl _) | (with_reducible assumption) | (with_reducible refine ex_drewL ?_) | (with_reducible refine ex_appR ?_ _) | (with_reducible refine ex_wx ?_ _) | (with_reducible refine ex_drew ?_) | (with_reducible refine ex_alloc ?_ _))) (by omega)).trans (hA9.below (by simp [go_sem]; omega) (fun g hg => ((HE7.out _ (ex_refl _)).lt g hg).1)); obtain ⟨j1, j2, rfl, _⟩ := OwnE.form hO9; have y6 := (below_cellE hB9 (show w.heap.size < w.heap.size + 2 by omega) 6).trans c67; have y7 := (below_frozE hB9 (show w.heap.size < w.heap.size + 2 by omega) 6).trans f67; have hbz9 := Nat.lt_of_lt_of_le hbz7 hB9.size; clear hA9; replace hB9 := Lib.hid hB9; replace hO9 := Lib.hid hO9)); refine mixQH_mk (⟨_, rfl⟩) ?_))
        all_goals (try (with_reducible refine wpForkH_fork ?_ ?_))
        all_goals repeat (first | ((with_reducible refine wpForkH_look ?_); go_big_quiet_step (fail); (try (with_reducible refine wpQuiet_nil ?_))) | (with_reducible refine wpForkH_eff ?_) | ((with_reducible refine effH_F ?_ ?_); (focus rfl); go_simp) | ((with_reducible refine effH_T ?_ ?_); (focus rfl); (try dsimp only); go_wp2_with (first | (go_at_call 51; (with_reducible refine (HU3.out _ (H5.out.grow (by (try show Ex _ _); repeat (first | (with_reducible exact ex_refl _) | (with_reducible assumption) | (with_reducible refine ex_drewL ?_) | (with_reducible refine ex_appR ?_ _) | (with_reducible refine ex_wx ?_ _) | (with_reducible refine ex_drew ?_) | (with_reducible refine ex_alloc ?_ _))))).mono ?_); rintro e w6 ⟨rfl, H6, M6⟩; replace M6 := M5.out.trans ((Mt.ex (w := w5) (by (try show Ex _ _); repeat (first | (with_reducible exact ex_refl _) | (with_reducible assumption) | (with_reducible refine ex_drewL ?_) | (with_reducible refine ex_appR ?_ _) | (with_reducible refine ex_wx ?_ _) | (with_reducible refine ex_drew ?_) | (with_reducible refine ex_alloc ?_ _)))).trans M6); have hz6 := M6.size; have hb6 := (M6.same w.heap.size (by omega) (by omega) (by omega)).trans HBk.out; have c66 := (block_cell (o := 6) (v := .slice f1 bs.length f2) hb6 rfl).1; have hbz6 : w.heap.size < w6.heap.size := (by omega); replace H6 := Lib.hid H6; replace M6 := Lib.hid M6; clear hb6) | (go_at_call 78; (with_reducible refine (HU4.out _ H6.out).mono ?_); rintro e w7 ⟨u, rfl, hO, H7, M7⟩; obtain ⟨ua, uc, rfl, _⟩ := own_form hO; have hrng := World.ownsRow.lt hO; have hnf := (fun b (hb : Value.ownBlock (.slice ua x4.length uc) = some b) => own_nofz hO hb); replace M7 := M6.out.trans M7; have hz7 := M7.size; have hb7 := (M7.same w.heap.size (by omega) (by omega) (by omega)).trans HBk.out; have hbr7 := (M7.same (w.heap.size + 1) (by omega) (by omega) (by omega)).trans HBr.out; obtain ⟨c67, f67⟩ := block_cell (o := 6) (v := .slice f1 bs.length f2) hb7 rfl; have hbz7 : w.heap.size < w7.heap.size := (by omega); have HE7 : Hid (∀ W, Ex w7 W → OwnE W (w.heap.size + 2) (.slice f1 bs.length f2) bs) := Lib.hid (fun W kx => (HOw.out.keep (M7.keep hpz)).ex kx); have HS7 : Hid (∀ W, Ex w7 W → SlT W (.slice ua x4.length uc) x4) := Lib.hid (fun W kx => hO.slt.ex kx); have hdb7 : Hid (∀ b, Value.ownBlock (.slice ua x4.length uc) = some b → w.heap.size + 2 ≤ b ∧ b < w7.heap.size ∧ Value.ownBlock (.slice f1 bs.length f2) ≠ some b ∧ NoFz w7 b) := Lib.hid (fun b hb => ⟨(by have := (hrng b hb).1; omega), (hrng b hb).2, (fun he => by have h1 := (HOw.out.lt b he).2; have h2 := (hrng b hb).1; omega), hnf b hb⟩); clear hrng hnf hO; replace hb7 := Lib.hid hb7; replace hbr7 := Lib.hid hbr7; replace H7 := Lib.hid H7; replace M7 := Lib.hid M7) | (at_builtin; refine wpAppE2 (Z := w.heap.size + 2) (v := .slice f1 bs.length f2) (dv := .slice ua x4.length uc) (l := bs) (e := ((t2, bn x2, x4) : En)) (g := w7.heap.size) _ _ rfl rfl (HE7.out _ (by (try show Ex _ _); repeat (first | (with_reducible exact ex_refl _) | (with_reducible assumption) | (with_reducible refine ex_drewL ?_) | (with_reducible refine ex_appR ?_ _) | (with_reducible refine ex_wx ?_ _) | (with_reducible refine ex_drew ?_) | (with_reducible refine ex_alloc ?_ _)))) rfl rfl (by simp [go_sem]) (by simp [go_sem]) (by simp [go_sem]) (HS7.out _ (by (try show Ex _ _); repeat (first | (with_reducible exact ex_refl _) | (with_reducible assumption) | (with_reducible refine ex_drewL ?_) | (with_reducible refine ex_appR ?_ _) | (with_reducible refine ex_wx ?_ _) | (with_reducible refine ex_drew ?_) | (with_reducible refine ex_alloc ?_ _)))) (fun b hb => ⟨(hdb7.out b hb).1, Nat.lt_of_lt_of_le (hdb7.out b hb).2.1 (by simp [go_sem] <;> omega), (hdb7.out b hb).2.2.1, nofz_ex (hdb7.out b hb).2.2.2 (hdb7.out b hb).2.1 (by (try show Ex _ _); repeat (first | (with_reducible exact ex_refl _) | (with_reducible assumption) | (with_reducible refine ex_drewL ?_) | (with_reducible refine ex_appR ?_ _) | (with_reducible refine ex_wx ?_ _) | (with_reducible refine ex_drew ?_) | (with_reducible refine ex_alloc ?_ _)))⟩) (by have := hbl.out; omega) (by simp [go_sem]; omega) (fun v9 w9 hO9 hA9 => ?_); have hB9 := (below_of_ex (w := w7) (Z := w.heap.size + 2) (by (try show Ex _ _); repeat (first | (with_reducible exact ex_refl _) | (with_reducible assumption) | (with_reducible refine ex_drewL ?_) | (with_reducible refine ex_appR ?_ _) | (with_reducible refine ex_wx ?_ _) | (with_reducible refine ex_drew ?_) | (with_reducible refine ex_alloc ?_ _))) (by omega)).trans (hA9.below (by simp [go_sem]; omega) (fun g hg => ((HE7.out _ (ex_refl _)).lt g hg).1)); obtain ⟨j1, j2, rfl, _⟩ := OwnE.form hO9; have y6 := (below_cellE hB9 (show w.heap.size < w.heap.size + 2 by omega) 6).trans c67; have y7 := (below_frozE hB9 (show w.heap.size < w.heap.size + 2 by omega) 6).trans f67; have hbz9 := Nat.lt_of_lt_of_le hbz7 hB9.size; clear hA9; replace hB9 := Lib.hid hB9; replace hO9 := Lib.hid hO9)); refine mixQH_mk (⟨_, rfl⟩) ?_))
        all_goals (try (with_reducible refine wpForkH_fork ?_ ?_))
        all_goals repeat (first | ((with_reducible refine wpForkH_look ?_); go_big_quiet_step (fail); (try (with_reducible refine wpQuiet_nil ?_))) | (with_reducible refine wpForkH_eff ?_) | ((with_reducible refine effH_F ?_ ?_); (focus rfl); go_simp) | ((with_reducible refine effH_T ?_ ?_); (focus rfl); (try dsimp only); go_wp2_with (first | (go_at_call 51; (with_reducible refine (HU3.out _ (H5.out.grow (by (try show Ex _ _); repeat (first | (with_reducible exact ex_refl _) | (with_reducible assumption) | (with_reducible refine ex_drewL ?_) | (with_reducible refine ex_appR ?_ _) | (with_reducible refine ex_wx ?_ _) | (with_reducible refine ex_drew ?_) | (with_reducible refine ex_alloc ?_ _))))).mono ?_); rintro e w6 ⟨rfl, H6, M6⟩; replace M6 := M5.out.trans ((Mt.ex (w := w5) (by (try show Ex _ _); repeat (first | (with_reducible exact ex_refl _) | (with_reducible assumption) | (with_reducible refine ex_drewL ?_) | (with_reducible refine ex_appR ?_ _) | (with_reducible refine ex_wx ?_ _) | (with_reducible refine ex_drew ?_) | (with_reducible refine ex_alloc ?_ _)))).trans M6); have hz6 := M6.size; have hb6 := (M6.same w.heap.size (by omega) (by omega) (by omega)).trans HBk.out; have c66 := (block_cell (o := 6) (v := .slice f1 bs.length f2) hb6 rfl).1; have hbz6 : w.heap.size < w6.heap.size := (by omega); replace H6 := Lib.hid H6; replace M6 := Lib.hid M6; clear hb6) | (go_at_call 78; (with_reducible refine (HU4.out _ H6.out).mono ?_); rintro e w7 ⟨u, rfl, hO, H7, M7⟩; obtain ⟨ua, uc, rfl, _⟩ := own_form hO; have hrng := World.ownsRow.lt hO; have hnf := (fun b (hb : Value.ownBlock (.slice ua x4.length uc) = some b) => own_nofz hO hb); replace M7 := M6.out.trans M7; have hz7 := M7.size; have hb7 := (M7.same w.heap.size (by omega) (by omega) (by omega)).trans HBk.out; have hbr7 := (M7.same (w.heap.size + 1) (by omega) (by omega) (by omega)).trans HBr.out; obtain ⟨c67, f67⟩ := block_cell (o := 6) (v := .slice f1 bs.length f2) hb7 rfl; have hbz7 : w.heap.size < w7.heap.size := (by omega); have HE7 : Hid (∀ W, Ex w7 W → OwnE W (w.heap.size + 2) (.slice f1 bs.length f2) bs) := Lib.hid (fun W kx => (HOw.out.keep (M7.keep hpz)).ex kx); have HS7 : Hid (∀ W, Ex w7 W → SlT W (.slice ua x4.length uc) x4) := Lib.hid (fun W kx => hO.slt.ex kx); have hdb7 : Hid (∀ b, Value.ownBlock (.slice ua x4.length uc) = some b → w.heap.size + 2 ≤ b ∧ b < w7.heap.size ∧ Value.ownBlock (.slice f1 bs.length f2) ≠ some b ∧ NoFz w7 b) := Lib.hid (fun b hb => ⟨(by have := (hrng b hb).1; omega), (hrng b hb).2, (fun he => by have h1 := (HOw.out.lt b he).2; have h2 := (hrng b hb).1; omega), hnf b hb⟩); clear hrng hnf hO; replace hb7 := Lib.hid hb7; replace hbr7 := Lib.hid hbr7; replace H7 := Lib.hid H7; replace M7 := Lib.hid M7) | (at_builtin; refine wpAppE2 (Z := w.heap.size + 2) (v := .slice f1 bs.length f2) (dv := .slice ua x4.length uc) (l := bs) (e := ((t2, bn x2, x4) : En)) (g := w7.heap.size) _ _ rfl rfl (HE7.out _ (by (try show Ex _ _); repeat (first | (with_reducible exact ex_refl _) | (with_reducible assumption) | (with_reducible refine ex_drewL ?_) | (with_reducible refine ex_appR ?_ _) | (with_reducible refine ex_wx ?_ _) | (with_reducible refine ex_drew ?_) | (with_reducible refine ex_alloc ?_ _)))) rfl rfl (by simp [go_sem]) (by simp [go_sem]) (by simp [go_sem]) (HS7.out _ (by (try show Ex _ _); repeat (first | (with_reducible exact ex_refl _) | (with_reducible assumption) | (with_reducible refine ex_drewL ?_) | (with_reducible refine ex_appR ?_ _) | (with_reducible refine ex_wx ?_ _) | (with_reducible refine ex_drew ?_) | (with_reducible refine ex_alloc ?_ _)))) (fun b hb => ⟨(hdb7.out b hb).1, Nat.lt_of_lt_of_le (hdb7.out b hb).2.1 (by simp [go_sem] <;> omega), (hdb7.out b hb).2.2.1, nofz_ex (hdb7.out b hb).2.2.2 (hdb7.out b hb).2.1 (by (try show Ex _ _); repeat (first | (with_reducible exact ex_refl _) | (with_reducible assumption) | (with_reducible refine ex_drewL ?_) | (with_reducible refine ex_appR ?_ _) | (with_reducible refine ex_wx ?_ _) | (with_reducible refine ex_drew ?_) | (with_reducible refine ex_alloc ?_ _)))⟩) (by have := hbl.out; omega) (by simp [go_sem]; omega) (fun v9 w9 hO9 hA9 => ?_); have hB9 := (below_of_ex (w := w7) (Z := w.heap.size + 2) (by (try show Ex _ _); repeat (first | (with_reducible exact ex_refl _) | (with_reducible assumption) | (with_reducible refine ex_drewL ?_) | (with_reducible refine ex_appR ?_ _) | (with_reducible refine ex_wx ?_ _) | (with_reducible refine ex_drew ?_) | (with_reducible refine ex_alloc ?_ _))) (by omega)).trans (hA9.below (by simp [go_sem]; omega) (fun g hg => ((HE7.out _ (ex_refl _)).lt g hg).1)); obtain ⟨j1, j2, rfl, _⟩ := OwnE.form hO9; have y6 := (below_cellE hB9 (show w.heap.size < w.heap.size + 2 by omega) 6).trans c67; have y7 := (below_frozE hB9 (show w.heap.size < w.heap.size + 2 by omega) 6).trans f67; have hbz9 := Nat.lt_of_lt_of_le hbz7 hB9.size; clear hA9; replace hB9 := Lib.hid hB9; replace hO9 := Lib.hid hO9)); refine mixQH_mk (⟨_, rfl⟩) ?_))
        all_goals (with_reducible refine wpForkH_nil ?_)
        all_goals
          go_wp2
          have hO8 : OwnE w9 (w.heap.size + 2) (.slice j1 (bs.length + 1) j2) (bs ++ [(t2, (x2.toNat : Int), x4)]) := by have h := hO9.out; simp only [List.length_append, List.length_cons, List.length_nil] at h; exact h
          refine ⟨⟨k + 1, .slice j1 (bs.length + 1) j2, by omega, by go_num, by rw [hqk.out], Lib.hid (by rw [hqk.out]; exact (H7.out.lay hB9.out (by omega)).poke hz _), Lib.hid (Mt.new ⟨Nat.le_trans (HM.out.trans M7.out).size hB9.out.size, fun b hb h1 h2 => (hB9.out.block b (by omega)).trans ((HM.out.trans M7.out).same b hb h1 h2)⟩ (Nat.le_refl _)), Lib.hid (by rw [hqk.out]; exact hO8.keep (Keep.set (Keep.refl _ _) (by omega) _)), Lib.hid (setCell_block (o := 6) (.slice j1 (bs.length + 1) j2) ((hB9.out.block w.heap.size (by omega)).trans hb7.out)), Lib.hid ((setCell_heap _ (by omega)).trans ((hB9.out.block (w.heap.size + 1) (by omega)).trans hbr7.out)), by rw [set_size]; have := hB9.out.size; have := M7.out.size; omega⟩, by simp [intOf]; omega⟩
      | true =>
        have hend := Lib.hid (show k = n ∨ (sq k).2.2.2 = true from Or.inr (by rw [hsk.out]))
        clear hlt
        obtain ⟨n4, _⟩ := block_cells (n := 11) HBk.out rfl
        obtain ⟨n5, nf5⟩ := block_cells (n := 11) HBr.out rfl
        have hq1' : w.heap.size < wr.heap.size := by omega
        have hq2' : w.heap.size + 1 < wr.heap.size := by omega
        have n6 := Lib.hid (tf_end (m := { m with es := bs }) (ev := .slice f1 bs.length f2) (mv := .slice ma mn mc) (dv := .slice da dn dc) HBk.out HBr.out rfl)
        have HO7 := Lib.hid (HOw.out.keep (Keep.sets (Keep.refl _ wr) (show w.heap.size + 1 < w.heap.size + 2 by omega) (o := 0) [I m.kd, I m.fr, I m.to, L m.tm, L m.pi, L m.pt, .slice f1 bs.length f2, L m.cm, .bool m.ok, .slice ma mn mc, .slice da dn dc]))
        clear htb
        go_wp2
        refine ret_row Tryd.results52 Tryd.underlying41 rfl info_msg rfl n6.out rfl ⟨k, hk1, hend.out, ?_, ?_, ?_⟩
        · rw [hsk.out]
          exact ⟨_, rfl, HO7.out.low (by omega)⟩
        · rw [hsk.out]
          exact HT.out.pokes (by omega) _
        · exact HM.out.news (Nat.le_succ _)
    · have hkn : ¬ (k : Int) < n := by omega
      have hend := Lib.hid (show k = n ∨ (sq k).2.2.2 = true from Or.inl (by omega))
      cases bd
      ·
        obtain ⟨n4, _⟩ := block_cells (n := 11) HBk.out rfl
        obtain ⟨n5, nf5⟩ := block_cells (n := 11) HBr.out rfl
        have hq1' : w.heap.size < wr.heap.size := by omega
        have hq2' : w.heap.size + 1 < wr.heap.size := by omega
        have n6 := Lib.hid (tf_end (m := { m with es := bs }) (ev := .slice f1 bs.length f2) (mv := .slice ma mn mc) (dv := .slice da dn dc) HBk.out HBr.out rfl)
        have HO7 := Lib.hid (HOw.out.keep (Keep.sets (Keep.refl _ wr) (show w.heap.size + 1 < w.heap.size + 2 by omega) (o := 0) [I m.kd, I m.fr, I m.to, L m.tm, L m.pi, L m.pt, .slice f1 bs.length f2, L m.cm, .bool m.ok, .slice ma mn mc, .slice da dn dc]))
        clear htb
        go_wp2
        refine ret_row Tryd.results52 Tryd.underlying41 rfl info_msg rfl n6.out rfl ⟨k, hk1, hend.out, ?_, ?_, ?_⟩
        · rw [hsk.out]
          exact ⟨_, rfl, HO7.out.low (by omega)⟩
        · rw [hsk.out]
          exact HT.out.pokes (by omega) _
        · exact HM.out.news (Nat.le_succ _)
      ·
        obtain ⟨n4, _⟩ := block_cells (n := 11) HBk.out rfl
        obtain ⟨n5, nf5⟩ := block_cells (n := 11) HBr.out rfl
        have hq1' : w.heap.size < wr.heap.size := by omega
        have hq2' : w.heap.size + 1 < wr.heap.size := by omega
        have n6 := Lib.hid (tf_end (m := { m with es := bs }) (ev := .slice f1 bs.length f2) (mv := .slice ma mn mc) (dv := .slice da dn dc) HBk.out HBr.out rfl)
        have HO7 := Lib.hid (HOw.out.keep (Keep.sets (Keep.refl _ wr) (show w.heap.size + 1 < w.heap.size + 2 by omega) (o := 0) [I m.kd, I m.fr, I m.to, L m.tm, L m.pi, L m.pt, .slice f1 bs.length f2, L m.cm, .bool m.ok, .slice ma mn mc, .slice da dn dc]))
        clear htb
        go_wp2
        refine ret_row Tryd.results52 Tryd.underlying41 rfl info_msg rfl n6.out rfl ⟨k, hk1, hend.out, ?_, ?_, ?_⟩
        · rw [hsk.out]
          exact ⟨_, rfl, HO7.out.low (by omega)⟩
        · rw [hsk.out]
          exact HT.out.pokes (by omega) _
        · exact HM.out.news (Nat.le_succ _)
end Go.Proofs.YtpcfkjeikhehaaaDoor
