import Derived.Test.YtdohohafdplkiaaMDkDl
import Derived.Test.YtdohohafdplkiaaMDkFb

/- What a disk tells of itself: is it what the document's tells? -/
set_option linter.unusedSimpArgs false
set_option linter.unusedVariables false
set_option maxRecDepth 20000
namespace Go.Proofs.Ytdohohafdplkiaa
open Go.RowKit
set_option maxHeartbeats 3000000 in
theorem tells_any {w : World} {L : Loc} {d : Dk} {v : Value} (h : DkAt w L d) (hv : RdV w v d) : Calls Try.prog 13 #[PT L.p, v] w (Post w (.bool true)) := by
  obtain ⟨hv', qv, rfl, h1, h2⟩ := hv.out
  obtain ⟨ah, ch, rfl, ch1, ch2, ch3, hH⟩ := id h1.out
  obtain ⟨aq, cq, rfl, cq1, cq2, cq3, hQ⟩ := id h2.out
  obtain ⟨n, hn⟩ : ∃ n, d.has.length = n := ⟨_, rfl⟩
  obtain ⟨nq, hnq⟩ : ∃ nq, d.qu.length = nq := ⟨_, rfl⟩
  have hq6 : nq ≤ 1000000 := by rw [← hnq]; exact h.ok.qn
  have hn2 : n ≤ 2048 := by rw [← hn]; exact h.ok.n2
  obtain ⟨l, hl⟩ : ∃ l, d.qu.map (·.1) = l := ⟨_, rfl⟩
  have hll : l.length = nq := by rw [← hl, List.length_map, hnq]
  rw [hn] at ch1 ⊢
  rw [hnq] at cq1 ⊢
  obtain ⟨w2, hw2⟩ : ∃ w2, w.alloc (.cells #[.slice ah n ch, .slice aq nq cq, I d.ar, I d.dm, .bool d.dark, I (d.ops : Nat)] 32) = w2 := ⟨_, rfl⟩
  have k2 : Ex w w2 := by rw [← hw2]; exact ex_alloc (ex_refl _) _
  have HB : Hid (∀ W, Ex w2 W → W.heap[w.heap.size]? = some (.cells #[.slice ah n ch, .slice aq nq cq, I d.ar, I d.dm, .bool d.dark, I (d.ops : Nat)] 32 (0, 0))) := Lib.hid fun W k => by
    rw [← hw2] at k; exact ex_block k (heap_alloc_new w _)
  have HP : Hid (Calls Try.prog 23 #[PT L.p] w2 fun e w' => ∃ a c, e = .returned (.slice a nq c) ∧ nq ≤ c ∧ SlV1 KZ 1 w' (.slice a nq c) l ∧ Ex w2 w') := Lib.hid ((pend_any (h.ex k2)).mono fun e w' hh => by
    obtain ⟨v, rfl, hO, k⟩ := hh
    rw [hl] at hO
    obtain ⟨a, c, rfl, hc, _⟩ := own_form hO
    rw [hll] at hc ⊢
    have := SlV1.of_own KZ_len (by omega) hO
    rw [hll] at this
    exact ⟨a, c, rfl, hc, this, k⟩)
  have HLn := Lib.hid (fun W (k : Ex w W) => len_any (h.ex k))
  have HOp := Lib.hid (fun W (k : Ex w W) => ops_any (h.ex k))
  have HDe := Lib.hid (fun W (k : Ex w W) => dead_any (h.ex k))
  rw [hn] at HLn
  have HQ := Lib.hid hQ
  have Hw2 := Lib.hid hw2
  have Hl := Lib.hid hl
  have Hnq := Lib.hid hnq
  have Hll := Lib.hid hll
  have K2 := Lib.hid k2
  unfold maxLen at ch2 cq2
  clear h h1 h2 hv hH hQ hw2 hn hnq hl hll k2 ch3
  go_enter Try.func13, Try.ntmps13
  go_wp2_with (go_at_call 23; rw [Hw2.out]; (with_reducible refine HP.out.mono ?_); rintro e w3 ⟨ap, cp, rfl, cp1, hPd, k3⟩; have b3 := HB.out _ k3; have c1 := (block_cell (o := 1) b3 rfl).1; have z3 := (Array.getElem?_eq_some_iff.1 b3).1; replace b3 := Lib.hid b3; replace hPd := Lib.hid hPd; have k3' := Lib.hid k3; clear k3)
  go_loopw [19] (fun i W => ∃ k : Nat, k ≤ nq ∧ i = I k ∧ Hid (Ex w3 W)) (fun i _ => nq - (intOf i).toNat)
  case atStart => exact ⟨0, by omega, rfl, Lib.hid (ex_refl _)⟩
  case round =>
    obtain ⟨k, hk, rfl, hX⟩ := hrel
    by_cases hlt : k < nq
    · have hlt2 : (k : Int) < nq := by omega
      obtain ⟨x, hx⟩ : ∃ x, d.qu[k]? = some x := ⟨_, List.getElem?_eq_getElem (by rw [Hnq.out]; exact hlt)⟩
      obtain ⟨gq, oq, rfl, zq, rq⟩ := (HQ.out.ex (ex_trans K2.out (ex_trans k3'.out hX.out))).pos (by rw [Hnq.out]; omega)
      have cx := rq k x hx
      obtain ⟨ap', cp', e, _, _, _, hSp⟩ := (hPd.out.ex hX.out).out
      obtain rfl : ap = ap' := by simpa using (Value.slice.inj e).1
      obtain ⟨gp, op, rfl, zp, rp⟩ := hSp.int (k := k) (by rw [Hll.out]; exact hlt)
      have hlx : l[k]'(by rw [Hll.out]; exact hlt) = x.1 := by
        have h3 : l[k]? = some x.1 := by rw [← Hl.out, List.getElem?_map, hx]; rfl
        exact Option.some.inj ((List.getElem?_eq_getElem _).symm.trans h3)
      rw [hlx] at rp
      clear rq hx hSp hlx
      go_wp2
      refine wp_region_fork ((wr.alloc (.cells (KQ x).toArray 72))) (.look 0 (.look 1 (.look 2 (.look 3 (.look 4 (.look 5 (.look 6 .done))))))) (by (try show Ex _ _); repeat (first | (with_reducible exact ex_refl _) | (with_reducible assumption) | (with_reducible refine ex_drewL ?_) | (with_reducible refine ex_appR ?_ _) | (with_reducible refine ex_wx ?_ _) | (with_reducible refine ex_drew ?_) | (with_reducible refine ex_alloc ?_ _))) (by kernel_rfl) (by kernel_rfl) (fun _ _ d _ _ h => by cases d <;> exact h) ?_
      simp only [Fk.ops, nth]
      repeat (first | ((with_reducible refine wpFork_look ?_); go_big_quiet_step (fail); (try (with_reducible refine wpQuiet_nil ?_))) | (with_reducible refine wpFork_eff ?_) | ((with_reducible refine effT_F ?_ ?_); (focus rfl); go_simp) | ((with_reducible refine effT_T ?_ ?_); (focus rfl); (try dsimp only); go_wp2_with (fail); refine mixQ_mk (by (try show Ex _ _); repeat (first | (with_reducible exact ex_refl _) | (with_reducible assumption) | (with_reducible refine ex_drewL ?_) | (with_reducible refine ex_appR ?_ _) | (with_reducible refine ex_wx ?_ _) | (with_reducible refine ex_drew ?_) | (with_reducible refine ex_alloc ?_ _))) ?_))
      all_goals (with_reducible refine wpFork_nil ?_)
      go_wp2
      exact ⟨⟨k + 1, by omega, by go_num, Lib.hid (ex_trans hX.out (by (try show Ex _ _); repeat (first | (with_reducible exact ex_refl _) | (with_reducible assumption) | (with_reducible refine ex_drewL ?_) | (with_reducible refine ex_appR ?_ _) | (with_reducible refine ex_wx ?_ _) | (with_reducible refine ex_drew ?_) | (with_reducible refine ex_alloc ?_ _))))⟩, by simp [intOf]; omega⟩
    · have hkn : k = nq := by omega
      subst k
      have b9 := ex_block hX.out b3.out
      obtain ⟨c0, _⟩ := block_cell (o := 0) b9 rfl
      obtain ⟨c4, _⟩ := block_cell (o := 4) b9 rfl
      obtain ⟨c5, _⟩ := block_cell (o := 5) b9 rfl
      have z9 := (Array.getElem?_eq_some_iff.1 b9).1
      have kr : Ex w wr := ex_trans K2.out (ex_trans k3'.out hX.out)
      clear b9 c1 z3 hlt
      go_wp2
      refine wp_region_fork (wr) (.look 0 (.look 2 (.look 3 (.look 4 (.eff 1 (.look 5 (.look 6 (.look 7 (.look 9 (.look 10 (.eff 8 (.look 11 (.look 12 (.look 13 (.look 14 (.look 16 (.look 17 (.eff 15 (.look 18 (.look 19 (.look 20 .done))))))))))))))))))))) (by (try show Ex _ _); repeat (first | (with_reducible exact ex_refl _) | (with_reducible assumption) | (with_reducible refine ex_drewL ?_) | (with_reducible refine ex_appR ?_ _) | (with_reducible refine ex_wx ?_ _) | (with_reducible refine ex_drew ?_) | (with_reducible refine ex_alloc ?_ _))) (by kernel_rfl) (by kernel_rfl) (fun _ _ d _ _ h => by cases d <;> exact h) ?_
      simp only [Fk.ops, nth]
      repeat (first | ((with_reducible refine wpFork_look ?_); go_big_quiet_step (fail); (try (with_reducible refine wpQuiet_nil ?_))) | (with_reducible refine wpFork_eff ?_) | ((with_reducible refine effT_F ?_ ?_); (focus rfl); go_simp) | ((with_reducible refine effT_T ?_ ?_); (focus rfl); (try dsimp only); go_wp2_with (first | (go_at_call 30; (with_reducible refine (HLn.out _ (ex_trans kr (by (try show Ex _ _); repeat (first | (with_reducible exact ex_refl _) | (with_reducible assumption) | (with_reducible refine ex_drewL ?_) | (with_reducible refine ex_appR ?_ _) | (with_reducible refine ex_wx ?_ _) | (with_reducible refine ex_drew ?_) | (with_reducible refine ex_alloc ?_ _))))).mono ?_); rintro e w4 ⟨rfl, X4, rfl⟩) | (go_at_call 22; (with_reducible refine (HOp.out _ (ex_trans kr (by (try show Ex _ _); repeat (first | (with_reducible exact ex_refl _) | (with_reducible assumption) | (with_reducible refine ex_drewL ?_) | (with_reducible refine ex_appR ?_ _) | (with_reducible refine ex_wx ?_ _) | (with_reducible refine ex_drew ?_) | (with_reducible refine ex_alloc ?_ _))))).mono ?_); rintro e w4 ⟨rfl, X5, rfl⟩) | (go_at_call 27; (with_reducible refine (HDe.out _ (ex_trans kr (by (try show Ex _ _); repeat (first | (with_reducible exact ex_refl _) | (with_reducible assumption) | (with_reducible refine ex_drewL ?_) | (with_reducible refine ex_appR ?_ _) | (with_reducible refine ex_wx ?_ _) | (with_reducible refine ex_drew ?_) | (with_reducible refine ex_alloc ?_ _))))).mono ?_); rintro e w4 ⟨rfl, X6, rfl⟩)); refine mixQ_mk (by (try show Ex _ _); repeat (first | (with_reducible exact ex_refl _) | (with_reducible assumption) | (with_reducible refine ex_drewL ?_) | (with_reducible refine ex_appR ?_ _) | (with_reducible refine ex_wx ?_ _) | (with_reducible refine ex_drew ?_) | (with_reducible refine ex_alloc ?_ _))) ?_))
      all_goals (with_reducible refine wpFork_nil ?_)
      go_wp2
      go_ret
      exact post_mk' (by simp) (ex_trans kr (by (try show Ex _ _); repeat (first | (with_reducible exact ex_refl _) | (with_reducible assumption) | (with_reducible refine ex_drewL ?_) | (with_reducible refine ex_appR ?_ _) | (with_reducible refine ex_wx ?_ _) | (with_reducible refine ex_drew ?_) | (with_reducible refine ex_alloc ?_ _))))
end Go.Proofs.Ytdohohafdplkiaa
