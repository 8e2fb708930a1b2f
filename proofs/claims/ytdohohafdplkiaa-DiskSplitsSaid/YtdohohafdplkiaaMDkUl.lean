import Derived.Test.YtdohohafdplkiaaMDkUh

/- All bools yes: of none, too. -/
set_option linter.unusedSimpArgs false
set_option linter.unusedVariables false
set_option maxRecDepth 20000
namespace Go.Proofs.Ytdohohafdplkiaa
open Go.RowKit
set_option maxHeartbeats 1000000 in
theorem repeat0_any (w : World) (g : Nat) (hg : w.heap[g]? = some (.cells #[.bool true] 4 (0, 0))) :
    Calls Try.prog 52 #[.slice (some ⟨g, 0, none⟩) 1 1, .int .i64 0] w fun e w' => e = .returned (.slice (some ⟨w.heap.size, 0, none⟩) 0 0) ∧ Ex w w' ∧ w.heap.size < w'.heap.size := by
  have HM : Hid (∀ W, Calls Try.prog 59 #[.int .u64 1, .int .u64 0] W fun e w' => e = .returned (.tuple #[.int .u64 0, .int .u64 0]) ∧ w' = W) := Lib.hid fun W => mul_any 1 0 (by omega) (by omega) W
  have hgz := (Array.getElem?_eq_some_iff.1 hg).1
  have hc : w.cell? ⟨g, 0, none⟩ = some (.bool true) := cell_of_row w g 0 _ _ _ hg
  have hcn : cellsN w g 0 0 = some #[] := cellsN_some.2 ⟨rfl, fun j hj => by omega⟩
  have ho : oneCells #[] = true := by simp [oneCells]
  clear hg
  go_enter Try.func52, Try.ntmps52
  go_wp2_with (go_at_call 59; (with_reducible refine (HM.out _).mono ?_); rintro e w3 ⟨rfl, hw3⟩; subst w3)
  go_loopw [8] (fun i W => i = I 0 ∧ Hid (Ex w W ∧ w.heap.size < W.heap.size)) (fun i _ => 0)
  case atStart => exact ⟨rfl, Lib.hid ⟨(by (try show Ex _ _); repeat (first | (with_reducible exact ex_refl _) | (with_reducible assumption) | (with_reducible refine ex_drewL ?_) | (with_reducible refine ex_appR ?_ _) | (with_reducible refine ex_wx ?_ _) | (with_reducible refine ex_drew ?_) | (with_reducible refine ex_alloc ?_ _))), by simp [go_sem]⟩⟩
  case round =>
    obtain ⟨rfl, hX⟩ := hrel
    go_wp2
    go_ret
    exact ⟨rfl, hX.out.1, hX.out.2⟩
theorem yes_all (n : Nat) (h0 : n ≤ 100000) (w : World) :
    Calls Try.prog 31 #[I n] w fun e w' => ∃ v, e = .returned v ∧ SlV1 KBo 1 w' v (List.replicate n true) ∧ (∀ g, v.ownBlock = some g → w.heap.size ≤ g ∧ g < w'.heap.size) ∧ Ex w w' := by
  rcases Nat.eq_zero_or_pos n with rfl | hn1
  · have HR := Lib.hid (repeat0_any (w.alloc (.cells #[.bool true] 4)) w.heap.size (heap_alloc_new w _))
    rw [World.size_alloc] at HR
    have H : Calls Try.prog 31 #[.int .i64 0] w fun e w' => e = .returned (.slice (some ⟨w.heap.size + 1, 0, none⟩) 0 0) ∧ Ex w w' ∧ w.heap.size + 1 < w'.heap.size := by
      go_enter Try.func31, Try.ntmps31
      go_wp2_with (go_at_call 52; (with_reducible refine HR.out.mono ?_); rintro e w2 ⟨rfl, k2, z2⟩; replace z2 := Lib.hid z2)
      go_ret
      exact ⟨rfl, ex_trans (ex_alloc (ex_refl _) _) k2, z2.out⟩
    refine H.mono fun e w' hh => ?_
    obtain ⟨rfl, k, z⟩ := hh
    refine ⟨_, rfl, ⟨some ⟨w.heap.size + 1, 0, none⟩, 0, rfl, Nat.le_refl _, by decide, (fun e => by cases e), SlR.nil _ _ _ _⟩, fun g hg => ?_, k⟩
    obtain rfl : w.heap.size + 1 = g := Option.some.inj hg
    exact ⟨by omega, z⟩
  · refine (yesB_any n h0 hn1 w).mono fun e w' hh => ?_
    obtain ⟨rfl, hb, k⟩ := hh
    have hz := (Array.getElem?_eq_some_iff.1 hb).1
    refine ⟨_, rfl, ⟨_, n, by simp, by simp, by unfold maxLen; omega, (fun e => by cases e), ⟨Or.inr ⟨_, 0, rfl, hz, fun i b hi => ?_⟩⟩⟩, fun g hg => ?_, k⟩
    · have hin := (List.getElem?_eq_some_iff.1 hi).1
      rw [List.length_replicate] at hin
      rw [List.getElem?_replicate, if_pos hin] at hi
      obtain rfl := Option.some.inj hi
      refine cellsN_some.2 ⟨rfl, fun j hj => ?_⟩
      obtain rfl : j = 0 := by omega
      rw [Nat.zero_add, Nat.mul_one]
      show w'.cell? ⟨w.heap.size + 1, i, none⟩ = _
      rw [cell_of_row w' _ i _ _ _ hb, repB_get, if_pos hin, decide_eq_true hin]; rfl
    · obtain rfl : w.heap.size + 1 = g := Option.some.inj hg
      exact ⟨by omega, hz⟩
end Go.Proofs.Ytdohohafdplkiaa

/- The document's disk: Made, Reads. -/
set_option linter.unusedSimpArgs false
set_option linter.unusedVariables false
set_option maxRecDepth 20000
namespace Go.Proofs.Ytdohohafdplkiaa
open Go.RowKit
theorem rdv_one {w : World} {v : Value} {d : Dk} (h : RdV w v d) : ∃ hv qv, v = .agg #[hv, qv, I d.ar, I d.dm, .bool d.dark, I (d.ops : Nat)] ∧ hv.oneCell' = true ∧ qv.oneCell' = true := by
  obtain ⟨hv, qv, e, h1, h2⟩ := h.out
  obtain ⟨a, c, rfl, _⟩ := h1.out
  obtain ⟨a', c', rfl, _⟩ := h2.out
  exact ⟨_, _, e, rfl, rfl⟩
theorem own_slv {w : World} {Z : Nat} {t : TypeId} {v : Value} {n : Nat} {l : List Bk} (hl : l.length = n) (h : w.ownsRow Z t 64 v n (l.flatMap KK)) : SlV1 KK 64 w v l := by
  subst hl
  exact SlV1.of_own KK_len (by omega) h
set_option maxHeartbeats 1000000 in
theorem made_any (n : Nat) (h1 : 1 ≤ n) (h2 : n ≤ 2048) (w : World) : Calls Try.prog 12 #[I n] w (PostN (fun _ => False) w (newD n)) := by
  go_enter Try.func12, Try.ntmps12
  go_wp2
  have hO := own_zero n h2 (w := w.alloc (.cells #[.slice (some ⟨w.heap.size + 1, 0, none⟩) n n, .slice none 0 0, I (-1), I (-1), .bool false, I 0] 32)) (g := w.heap.size + 1) (by simp [go_sem]) (ex_refl _)
  refine ret_row (cs := #[.slice (some ⟨w.heap.size + 1, 0, none⟩) n n, .slice none 0 0, I (-1), I (-1), .bool false, I 0]) Try.results12 Try.underlying32 rfl info_rdk rfl ?_ rfl ⟨_, rfl, RdN.mk' (d := newD n) ?_ (SlV1.nil _ _ _) (fun g hg => Or.inr (by have := Option.some.inj hg; simp only at this; omega)) (fun g hg => by cases hg), (by (try show Ex _ _); repeat (first | (with_reducible exact ex_refl _) | (with_reducible assumption) | (with_reducible refine ex_drewL ?_) | (with_reducible refine ex_appR ?_ _) | (with_reducible refine ex_wx ?_ _) | (with_reducible refine ex_drew ?_) | (with_reducible refine ex_alloc ?_ _)))⟩
  · simp [go_sem]
  · exact own_slv (List.length_replicate ..) hO
theorem last_none {l : List Pt} {i : Int} (h : ∀ p ∈ l, p.1 ≠ i) : lastD l i = none := by
  unfold lastD
  rw [Option.map_eq_none_iff, List.find?_eq_none]
  intro p hp
  simp only [decide_eq_true_eq]
  exact h p (List.mem_reverse.1 hp)
theorem last_take {l : List Pt} {i : Int} {k : Nat} {p : Pt} (hp : l[k]? = some p) (hi : p.1 = i) (h : ∀ j q, k < j → l[j]? = some q → q.1 ≠ i) : lastD l i = some p.2 := by
  have hk := (List.getElem?_eq_some_iff.1 hp).1
  have e : l = l.take k ++ p :: l.drop (k + 1) := by
    have h1 := List.take_append_drop k l
    rw [List.drop_eq_getElem_cons hk, (List.getElem?_eq_some_iff.1 hp).2] at h1
    exact h1.symm
  unfold lastD
  rw [e, List.reverse_append, List.reverse_cons, List.find?_append, List.find?_append]
  have h1 : (l.drop (k + 1)).reverse.find? (fun p => decide (p.1 = i)) = none := by
    rw [List.find?_eq_none]
    intro q hq
    simp only [decide_eq_true_eq]
    obtain ⟨j, hj⟩ := List.getElem?_of_mem (List.mem_reverse.1 hq)
    rw [List.getElem?_drop] at hj
    exact h _ q (by omega) hj
  rw [h1]
  simp [hi]
theorem kq_part {W : World} {g o : Nat} {p : Pt} (h : cellsN W g o 65 = some (KQ p).toArray) : W.cell? ⟨g, o, none⟩ = some (I p.1) ∧ cellsN W g (o + 1) 64 = some (rowB 64 (bkF p.2)) := by
  obtain ⟨_, hc⟩ := cellsN_some.1 h
  have hg : ∀ j, j < 65 → (KQ p).toArray[j]? = (KQ p)[j]? := fun j _ => List.getElem?_toArray ..
  refine ⟨?_, cellsN_some.2 ⟨by simp, fun j hj => ?_⟩⟩
  · have := hc 0 (by omega)
    rw [Nat.add_zero] at this
    rw [this]; rfl
  · rw [Nat.add_assoc, hc (1 + j) (by omega), hg _ (by omega), show 1 + j = j + 1 by omega]
    unfold KQ
    rw [List.getElem?_cons_succ]
    unfold KK
    rw [Array.getElem?_toList]
theorem kk_part {W : World} {g o : Nat} {b : Bk} (h : cellsN W g o 64 = some (KK b).toArray) : cellsN W g o 64 = some (rowB 64 (bkF b)) := by rwa [KK_back] at h
set_option maxHeartbeats 2000000 in
theorem reads_any {w : World} {v : Value} {d : Dk} (h : RdV w v d) {i : Nat} (hi : i < d.has.length) (hm : d.qu.length ≤ 1000000) : Calls Try.prog 39 #[v, I i] w (Post w (.agg (rowB 64 (bkF (readsD d i))))) := by
  obtain ⟨hv, qv, rfl, h1, h2⟩ := h.out
  obtain ⟨ah, ch, rfl, ch1, ch2, ch3, hH⟩ := h1.out
  obtain ⟨aq, cq, rfl, cq1, cq2, cq3, hQ⟩ := h2.out
  obtain ⟨n, hn⟩ : ∃ n, d.qu.length = n := ⟨_, rfl⟩
  obtain ⟨nh, hnh⟩ : ∃ nh, d.has.length = nh := ⟨_, rfl⟩
  rw [hn] at hm cq1 ⊢
  rw [hnh] at hi ch1 ⊢
  obtain ⟨w2, hw2⟩ : ∃ w2, (w.alloc (.cells #[.slice ah nh ch, .slice aq n cq, I d.ar, I d.dm, .bool d.dark, I (d.ops : Nat)] 32)).alloc (.cells (rowB 64 fun _ => 0) 39) = w2 := ⟨_, rfl⟩
  have k2 : Ex w w2 := by rw [← hw2]; exact ex_alloc (ex_alloc (ex_refl _) _) _
  have hs2 : w2.heap.size = w.heap.size + 2 := by rw [← hw2]; simp [go_sem]
  have hb2 : w2.heap[w.heap.size]? = some (.cells #[.slice ah nh ch, .slice aq n cq, I d.ar, I d.dm, .bool d.dark, I (d.ops : Nat)] 32 (0, 0)) := by
    rw [← hw2]; exact ex_block (ex_alloc (ex_refl _) _) (heap_alloc_new w _)
  have hb4 : w2.heap[w.heap.size + 1]? = some (.cells (rowB 64 fun _ => 0) 39 (0, 0)) := by
    rw [← hw2]
    have := heap_alloc_new (w.alloc (.cells #[.slice ah nh ch, .slice aq n cq, I d.ar, I d.dm, .bool d.dark, I (d.ops : Nat)] 32)) (.cells (rowB 64 fun _ => 0) 39)
    simpa only [World.size_alloc] using this
  have c0 := (block_cell (o := 0) hb2 rfl).1
  have c1 := (block_cell (o := 1) hb2 rfl).1
  obtain ⟨r4, f4⟩ := block_cells (n := 64) hb4 (by simp)
  have z2 : w.heap.size < w2.heap.size := by omega
  have z4 : w.heap.size + 1 < w2.heap.size := by omega
  obtain ⟨b4, hb4'⟩ : ∃ b4, w.heap.size + 1 = b4 := ⟨_, rfl⟩
  obtain ⟨rd, hrd⟩ : ∃ rd, readsD d i = rd := ⟨_, rfl⟩
  have HE : Hid (∀ b : Bk, b = rd → Post w (.agg (rowB 64 (bkF rd))) (.returned (.agg (rowB 64 (bkF b)))) (w2.setCells b4 0 (rowB 64 (bkF b)).toList)) := Lib.hid fun b e => by
    rw [e]; exact post_mk' rfl (ex_setCellsK k2 (by omega) _ _)
  have HC : Hid (∀ b : Bk, cellsN (w2.setCells b4 0 (rowB 64 (bkF b)).toList) b4 0 64 = some (rowB 64 (bkF b))) := Lib.hid fun b => by
    rw [← hb4']
    have := setCells_block (w.heap.size + 1) 39 (0, 0) (rowB 64 (bkF b)).toList 0 w2 _ hb4
    rw [spliceA_all _ _ (by simp)] at this
    exact (block_cells this (by simp)).1
  rw [hrd]
  rw [hb4'] at r4 f4 z4
  have HH := Lib.hid (hH.ex k2)
  have HQ := Lib.hid (hQ.ex k2)
  have Hw2 := Lib.hid hw2
  have Hb4 := Lib.hid hb4'
  have Hn := Lib.hid hn
  have Hnh := Lib.hid hnh
  have Hrd := Lib.hid hrd
  clear hw2 hb2 hb4 k2 hs2 hb4' hn hnh hH hQ h1 h2 h hrd
  unfold maxLen at ch2 cq2
  go_enter Try.func39, Try.ntmps39
  go_wp2
  rw [Hw2.out, Hb4.out]
  go_loopw [5] (fun j W => ∃ k : Nat, k ≤ n ∧ j = I ((k : Int) - 1) ∧ Hid (∀ j q, k ≤ j → d.qu[j]? = some q → q.1 ≠ (i : Int)) ∧ W = w2) (fun j _ => ((intOf j) + 1).toNat)
  case atStart => exact ⟨n, Nat.le_refl _, rfl, Lib.hid (fun j q hj hq => by have := (List.getElem?_eq_some_iff.1 hq).1; have := Hn.out; omega), rfl⟩
  case round =>
    obtain ⟨k, hk, rfl, hno, rfl⟩ := hrel
    cases k with
    | zero =>
      have hmi : ((0 : Nat) : Int) - 1 = -1 := rfl
      rw [hmi]
      have hlast : Hid (rd = d.has.getD i zeroB) := Lib.hid (by
        rw [← Hrd.out]; unfold readsD
        rw [last_none fun p hp => by obtain ⟨j, hj⟩ := List.getElem?_of_mem hp; exact hno.out j p (Nat.zero_le _) hj]
        simp)
      obtain ⟨g, off, rfl, hg, hrow⟩ := HH.out.pos (by rw [Hnh.out]; omega)
      have hiL : i < d.has.length := by rw [Hnh.out]; exact hi
      have r5 := kk_part (hrow i _ (List.getElem?_eq_getElem hiL))
      have he : d.has[i] = rd := by rw [hlast.out, List.getD_eq_getElem?_getD, List.getElem?_eq_getElem hiL]; rfl
      rw [he] at r5
      clear hrow he hlast hno
      go_wp2
      exact ret_row Try.results39 Try.underlying39 rfl info_blk rfl (HC.out rd) rfl (HE.out rd rfl)
    | succ k =>
      have hmi : ((k + 1 : Nat) : Int) - 1 = (k : Nat) := by omega
      rw [hmi]
      have hkL : k < d.qu.length := by rw [Hn.out]; omega
      obtain ⟨p, hp⟩ : ∃ p, d.qu[k]? = some p := ⟨_, List.getElem?_eq_getElem hkL⟩
      obtain ⟨g, off, rfl, hg, hrow⟩ := HQ.out.pos (by rw [Hn.out]; omega)
      obtain ⟨q0, q1⟩ := kq_part (hrow k p hp)
      have hlt2 : (k : Int) < n := by omega
      clear hrow
      by_cases hpi : p.1 = i
      · have hrp : Hid (p.2 = rd) := Lib.hid (by
          rw [← Hrd.out]; unfold readsD
          rw [last_take hp hpi fun j q hj hq => hno.out j q (by omega) hq]; rfl)
        rw [hpi] at q0
        rw [hrp.out] at q1
        clear hpi hrp hp hno hmi
        go_wp2
        exact ret_row Try.results39 Try.underlying39 rfl info_blk rfl (HC.out rd) rfl (HE.out rd rfl)
      · have hno2 : Hid (∀ j q, k ≤ j → d.qu[j]? = some q → q.1 ≠ (i : Int)) := Lib.hid fun j q hj hq => by
          rcases Nat.lt_or_ge k j with hkj | hkj
          · exact hno.out j q (by omega) hq
          · obtain rfl : j = k := by omega
            rw [hp] at hq
            obtain rfl := Option.some.inj hq
            exact hpi
        have hpb : (p.1 == (i : Int)) = false := by simpa using hpi
        clear hpi hp hno hmi
        go_wp2
        exact ⟨⟨k, by omega, by go_num, hno2, trivial⟩, by simp [intOf] <;> omega⟩
end Go.Proofs.Ytdohohafdplkiaa
