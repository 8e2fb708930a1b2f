import Derived.Test.YtdohohafdplkiaaMDkDd

/- The document's disk: Do. -/
set_option linter.unusedSimpArgs false
set_option linter.unusedVariables false
set_option maxRecDepth 20000
namespace Go.Proofs.Ytdohohafdplkiaa
open Go.RowKit
theorem own_emptyK {w w' : World} {g : Nat} (k : Ex (w.alloc (.cells #[] 39)) w') (hg : g = w.heap.size) : w'.ownsRow w.heap.size 39 64 (.slice (some ⟨g, 0, none⟩) 0 0) 0 (([] : List Bk).flatMap KK) := by
  subst hg
  exact owns_ex (owns_new (n := 0) (cap := 0) rfl (Nat.le_refl _) (by omega) (by decide) (by simp) (by simp)) k
theorem ownsRow_lower {w : World} {Z Z' : Nat} {t : TypeId} {s : Nat} {v : Value} {n : Nat} {xs : List Value} (h : w.ownsRow Z t s v n xs) (hz : Z' ≤ Z) : w.ownsRow Z' t s v n xs := by
  refine ⟨h.1, ?_⟩
  rcases h.2 with h0 | ⟨g, cap, cur, h1, h2, h3⟩
  · exact Or.inl h0
  · exact Or.inr ⟨g, cap, cur, h1, Nat.le_trans hz h2, h3⟩
@[go_sem high] theorem zv_rput (w : World) : (zeroValue 72).run Try.prog w = .ok (.agg zPut) w := by kernel_rfl
@[go_sem] theorem KQ_get0 (p : Pt) (h : 0 < (KQ p).length) : (KQ p)[0]'h = I p.1 := rfl
@[go_sem] theorem KQ_tail (p : Pt) : (List.take 64 (KQ p).tail).toArray = rowB 64 (bkF p.2) := by
  unfold KQ
  rw [List.tail_cons, List.take_of_length_le (by rw [KK_len]; exact Nat.le_refl _), KK_back]
def doneD (d : Dk) (L : List Bool) : Dk := { d with has := doQ d.has 0 d.qu (keptL L), qu := [] }
set_option maxHeartbeats 4000000 in
theorem do_doc {w : World} {v : Value} {d : Dk} (h : RdV w v d) (hok : DkOk d) {kv : Value} {L : List Bool} (hs : SlV1 KBo 1 w kv L) (hL : L.length = d.qu.length) :
    Calls Try.prog 54 #[v, kv] w (PostN (fun _ => False) w (doneD d L)) := by
  obtain ⟨hv, qv, rfl, h1, h2⟩ := h.out
  obtain ⟨ah, ch, rfl, ch1, ch2, ch3, hH⟩ := id h1.out
  obtain ⟨aq, cq, rfl, cq1, cq2, cq3, hQ⟩ := id h2.out
  obtain ⟨ak, ck, rfl, ck1, ck2, ck3, hK⟩ := id hs.out
  rw [hL] at ck1 ⊢
  obtain ⟨n, hn⟩ : ∃ n, d.has.length = n := ⟨_, rfl⟩
  obtain ⟨nq, hnq⟩ : ∃ nq, d.qu.length = nq := ⟨_, rfl⟩
  have hn1 : 1 ≤ n := by rw [← hn]; exact hok.n1
  have hn2 : n ≤ 2048 := by rw [← hn]; exact hok.n2
  have hq2 : nq ≤ 1000000 := by rw [← hnq]; exact hok.qn
  obtain ⟨gh, oh, rfl, gh1, _⟩ := hH.pos (by rw [hn]; omega)
  have hl1 : 0 + n ≤ maxLen := by unfold maxLen; omega
  have hl2 : (0 + n) * 64 ≤ 140737488355328 := by omega
  have hne : ∀ u ∈ d.has.flatMap KK, u.oneCell' = true := KK_one d.has
  have hfl : (d.has.flatMap KK).length = n * 64 := by rw [flat_len KK_len, hn]
  rw [hn] at ch1 ⊢
  rw [hnq] at cq1 ck1 ⊢
  have HH := Lib.hid hH
  have HQ := Lib.hid hQ
  have HK := Lib.hid hK
  have Hn := Lib.hid hn
  have Hnq := Lib.hid hnq
  have HL := Lib.hid hL
  have HO := Lib.hid hok
  clear h h1 h2 hs hH hQ hK hn hnq hL hok ch3
  unfold maxLen at ch2 cq2 ck2
  replace hne := Lib.hid hne
  replace hfl := Lib.hid hfl
  replace hl1 := Lib.hid hl1
  obtain ⟨is, his⟩ : ∃ is, keptL L = is := ⟨_, rfl⟩
  obtain ⟨B2o, hB2o⟩ : ∃ o, o = Obj.cells #[.slice (some ⟨gh, oh, none⟩) n ch, .slice aq nq cq, I d.ar, I d.dm, .bool d.dark, I (d.ops : Nat)] 32 (0, 0) := ⟨_, rfl⟩
  obtain ⟨B4o, hB4o⟩ : ∃ o, o = Obj.cells #[.slice none 0 0, .slice none 0 0, .int .i64 0, .int .i64 0, .bool false, .int .i64 0] 32 (0, 0) := ⟨_, rfl⟩
  have HB : Hid (∀ w1 v1, Apd (((w.alloc B2o).alloc B4o).alloc (.cells #[] 39)) w1 (.slice (some ⟨w.heap.size + 2, 0, none⟩) 0 0) v1 → w1.heap[w.heap.size]? = some B2o ∧ w1.heap[w.heap.size + 1]? = some B4o ∧ Ex w w1 ∧ ∀ g, v1.ownBlock = some g → w.heap.size + 2 ≤ g) := Lib.hid fun w1 v1 hA => by
    have z : (((w.alloc B2o).alloc B4o).alloc (.cells #[] 39)).heap.size = w.heap.size + 3 := by simp [go_sem]
    have e2 : (((w.alloc B2o).alloc B4o).alloc (.cells #[] 39)).heap[w.heap.size]? = some B2o := ex_block (ex_alloc (ex_alloc (ex_refl _) _) _) (heap_alloc_new w _)
    have e4 : (((w.alloc B2o).alloc B4o).alloc (.cells #[] 39)).heap[w.heap.size + 1]? = some B4o := by
      have := heap_alloc_new (w.alloc B2o) B4o
      rw [World.size_alloc] at this
      exact ex_block (ex_alloc (ex_refl _) _) this
    refine ⟨(hA.block _ (by omega) ?_).trans e2, (hA.block _ (by omega) ?_).trans e4, ?_, fun g hg => ?_⟩
    · intro e; have := Option.some.inj e; simp only at this; omega
    · intro e; have := Option.some.inj e; simp only at this; omega
    · refine ex_of_below ((ex_below (ex_alloc (ex_alloc (ex_alloc (ex_refl w) B2o) B4o) (.cells #[] 39))).trans (hA.below (by omega) fun g hg => ?_))
      have := Option.some.inj hg
      simp only at this
      omega
    · rcases hA.own with h1 | ⟨g', h1, h2⟩
      · rw [h1] at hg; have := Option.some.inj hg; simp only at this; omega
      · rw [h1] at hg; have := Option.some.inj hg; omega
  have HE : Hid ((((w.alloc B2o).alloc B4o).alloc (.cells #[] 39)).ownsRow w.heap.size 39 64 (.slice (some ⟨w.heap.size + 2, 0, none⟩) 0 0) 0 (([] : List Bk).flatMap KK)) := Lib.hid (ownsRow_lower (own_emptyK (w := (w.alloc B2o).alloc B4o) (ex_refl _) (by simp [go_sem])) (by simp [go_sem]; omega))
  rw [hB2o, hB4o] at HB HE
  replace his := Lib.hid his
  go_enter Try.func54, Try.ntmps54
  go_wp2_with (at_builtin; refine wpApd (v := .slice (some ⟨w.heap.size + 2, 0, none⟩) 0 0) (n := 0) (xs := ([] : List Bk).flatMap KK) (B := w.heap.size) appBlk _ _ rfl rfl HE.out rfl ⟨gh, oh, none⟩ n ch (d.has.flatMap KK) rfl hfl.out (SlR.news KK_len (by omega) (HH.out.ex (by (try show Ex _ _); repeat (first | (with_reducible exact ex_refl _) | (with_reducible assumption) | (with_reducible refine ex_drewL ?_) | (with_reducible refine ex_appR ?_ _) | (with_reducible refine ex_wx ?_ _) | (with_reducible refine ex_drew ?_) | (with_reducible refine ex_alloc ?_ _))))) hne.out hl1.out hl2 (ex_size (by (try show Ex _ _); repeat (first | (with_reducible exact ex_refl _) | (with_reducible assumption) | (with_reducible refine ex_drewL ?_) | (with_reducible refine ex_appR ?_ _) | (with_reducible refine ex_wx ?_ _) | (with_reducible refine ex_drew ?_) | (with_reducible refine ex_alloc ?_ _)))) (fun v1 w1 hown hA => ?_); obtain ⟨B2, B4, K1, g1⟩ := HB.out _ _ hA; obtain ⟨c1, f1⟩ := block_cell (o := 1) B2 rfl; have z1 := (Array.getElem?_eq_some_iff.1 B2).1; replace B2 := Lib.hid B2; replace B4 := Lib.hid B4; replace K1 := Lib.hid K1; replace g1 := Lib.hid g1; rw [Nat.zero_add, List.flatMap_nil, List.nil_append] at hown; replace hown := Lib.hid hown; clear hA)
  obtain ⟨b1, cap, cur, rfl, zb1, _, cap1, cap2, _⟩ := own_block hown.out (by omega) (by omega)
  have g1b := g1.out b1 rfl
  unfold maxLen at cap2
  obtain ⟨b2, hb2⟩ : ∃ b2, w.heap.size = b2 := ⟨_, rfl⟩
  obtain ⟨b4, hb4⟩ : ∃ b4, w.heap.size + 1 = b4 := ⟨_, rfl⟩
  rw [hb2] at B2
  rw [hb4] at B4
  have hbb : b2 ≠ b1 ∧ b4 ≠ b1 ∧ b2 ≠ b4 ∧ w.heap.size ≤ b2 ∧ w.heap.size ≤ b4 := by omega
  obtain ⟨q1, q2, q3, q4, q5⟩ := hbb
  rw [hb4, hb2]
  clear hb2 hb4 g1 c1 f1 z1
  go_loopw [15] (fun i W => ∃ k : Nat, k ≤ nq ∧ i = I k ∧ Hid (W.ownsRow w.heap.size 39 64 (.slice (some ⟨b1, 0, none⟩) n cap) n ((doQ d.has 0 (d.qu.take k) is).flatMap KK)) ∧ Hid (W.heap[b2]? = some (.cells #[.slice (some ⟨gh, oh, none⟩) n ch, .slice aq nq cq, I d.ar, I d.dm, .bool d.dark, I (d.ops : Nat)] 32 (0, 0))) ∧ Hid (W.heap[b4]? = some (.cells #[.slice none 0 0, .slice none 0 0, .int .i64 0, .int .i64 0, .bool false, .int .i64 0] 32 (0, 0))) ∧ Hid (Ex w W)) (fun i _ => nq - (intOf i).toNat)
  case atStart => exact ⟨0, by omega, rfl, hown, B2, B4, K1⟩
  case round =>
    obtain ⟨k, hk, rfl, hO2, hB2, hB4, hX⟩ := hrel
    by_cases hlt : k < nq
    · have hlt2 : (k : Int) < nq := by omega
      obtain ⟨x, hx⟩ : ∃ x, d.qu[k]? = some x := ⟨_, List.getElem?_eq_getElem (by rw [Hnq.out]; exact hlt)⟩
      have hxr := HO.out.qr x (List.mem_of_getElem? hx)
      rw [Hn.out] at hxr
      have hst := Lib.hid (doQ_take is d.has d.qu hx)
      obtain ⟨gq, oq, rfl, zq, rq⟩ := (HQ.out.ex hX.out).pos (by rw [Hnq.out]; omega)
      have cx := rq k x hx
      obtain ⟨gk, ok, rfl, zk, ck⟩ := (HK.out.ex hX.out).bool (k := k) (by rw [HL.out, Hnq.out]; exact hlt)
      have hlen : (doQ d.has 0 (d.qu.take k) is).length = n := by rw [doQ_len]; exact Hn.out
      rw [his.out] at ck
      clear rq hx
      generalize doQ d.has 0 (d.qu.take k) is = hs at *
      cases hik : is k with
      | false =>
        rw [hik, if_neg (by simp)] at hst
        rw [hik] at ck
        clear hik
        go_wp2
        refine ⟨⟨k + 1, by omega, by go_num, Lib.hid ?_, Lib.hid (ex_block (by (try show Ex _ _); repeat (first | (with_reducible exact ex_refl _) | (with_reducible assumption) | (with_reducible refine ex_drewL ?_) | (with_reducible refine ex_appR ?_ _) | (with_reducible refine ex_wx ?_ _) | (with_reducible refine ex_drew ?_) | (with_reducible refine ex_alloc ?_ _))) hB2.out), Lib.hid (ex_block (by (try show Ex _ _); repeat (first | (with_reducible exact ex_refl _) | (with_reducible assumption) | (with_reducible refine ex_drewL ?_) | (with_reducible refine ex_appR ?_ _) | (with_reducible refine ex_wx ?_ _) | (with_reducible refine ex_drew ?_) | (with_reducible refine ex_alloc ?_ _))) hB4.out), Lib.hid (ex_trans hX.out (by (try show Ex _ _); repeat (first | (with_reducible exact ex_refl _) | (with_reducible assumption) | (with_reducible refine ex_drewL ?_) | (with_reducible refine ex_appR ?_ _) | (with_reducible refine ex_wx ?_ _) | (with_reducible refine ex_drew ?_) | (with_reducible refine ex_alloc ?_ _))))⟩, by simp [intOf]; omega⟩
        rw [hst.out]; exact owns_ex hO2.out (by (try show Ex _ _); repeat (first | (with_reducible exact ex_refl _) | (with_reducible assumption) | (with_reducible refine ex_drewL ?_) | (with_reducible refine ex_appR ?_ _) | (with_reducible refine ex_wx ?_ _) | (with_reducible refine ex_drew ?_) | (with_reducible refine ex_alloc ?_ _)))
      | true =>
        rw [hik, if_pos rfl] at hst
        rw [hik] at ck
        clear hik
        obtain ⟨x1, x2⟩ := x
        obtain ⟨q, rfl⟩ : ∃ q : Nat, x1 = (q : Int) := ⟨x1.toNat, by have := hxr.1; simp only at this; omega⟩
        simp only [Int.toNat_natCast] at hst hxr
        have hq1 : q < hs.length := by rw [hlen]; omega
        obtain ⟨y, hy⟩ : ∃ y, hs[q]? = some y := ⟨_, List.getElem?_eq_getElem hq1⟩
        obtain ⟨h1, h2, _, h3⟩ := own_at KK_len hO2.out hy
        have hqn : (q : Int) < n := hxr.2
        have HN : Hid (∀ W, Ex wr W → (W.setCells b1 (q * 64) (rowB 64 (bkF x2)).toList).ownsRow w.heap.size 39 64 (.slice (some ⟨b1, 0, none⟩) n cap) n ((hs.set q x2).flatMap KK) ∧ Ex w (W.setCells b1 (q * 64) (rowB 64 (bkF x2)).toList) ∧ (W.setCells b1 (q * 64) (rowB 64 (bkF x2)).toList).heap[b2]? = W.heap[b2]? ∧ (W.setCells b1 (q * 64) (rowB 64 (bkF x2)).toList).heap[b4]? = W.heap[b4]?) := Lib.hid fun W kW => by
          have h5 := own_set KK_len (by omega) (owns_ex hO2.out kW) x2 hq1
          exact ⟨h5.1, ex_of_below ((ex_below (ex_trans hX.out kW)).trans h5.2), setCells_heap _ _ _ _ _ q1, setCells_heap _ _ _ _ _ q2⟩
        clear hy hlen hxr
        go_wp2
        obtain ⟨n1, n2, n3, n4⟩ := HN.out wr (ex_refl _)
        refine ⟨⟨k + 1, by omega, by go_num, Lib.hid ?_, Lib.hid ?_, Lib.hid ?_, Lib.hid (ex_alloc n2 _)⟩, by simp [intOf]; omega⟩
        · rw [hst.out]; exact owns_ex n1 (ex_alloc (ex_refl _) _)
        · exact ex_block (ex_alloc (ex_refl _) _) (n3.trans hB2.out)
        · exact ex_block (ex_alloc (ex_refl _) _) (n4.trans hB4.out)
    · have hkn : k = nq := by omega
      subst k
      have hE : Hid (doQ d.has 0 (d.qu.take nq) is = doQ d.has 0 d.qu is) := Lib.hid (by rw [← Hnq.out, List.take_length])
      rw [hE.out] at hO2
      obtain ⟨e0, e0f⟩ := block_cell (o := 0) hB2.out rfl
      obtain ⟨e1, e1f⟩ := block_cell (o := 1) hB2.out rfl
      obtain ⟨r2, r2f⟩ := block_cells (n := 6) hB2.out rfl
      obtain ⟨r4, r4f⟩ := block_cells (n := 6) hB4.out rfl
      have z2 := (Array.getElem?_eq_some_iff.1 hB2.out).1
      have z4 := (Array.getElem?_eq_some_iff.1 hB4.out).1
      obtain ⟨W2, hW2⟩ : ∃ W2, (wr.setCell ⟨b2, 0, none⟩ (.slice (some ⟨b1, 0, none⟩) n cap)).setCell ⟨b2, 1, none⟩ (.slice none 0 0) = W2 := ⟨_, rfl⟩
      have g2 : W2.heap[b2]? = some (.cells #[.slice (some ⟨b1, 0, none⟩) n cap, .slice none 0 0, I d.ar, I d.dm, .bool d.dark, I (d.ops : Nat)] 32 (0, 0)) := by
        rw [← hW2, setCell_block _ (setCell_block _ hB2.out)]; rfl
      have g4 : W2.heap[b4]? = some (.cells #[.slice none 0 0, .slice none 0 0, .int .i64 0, .int .i64 0, .bool false, .int .i64 0] 32 (0, 0)) := by
        rw [← hW2, setCell_heap _ (Ne.symm q3), setCell_heap _ (Ne.symm q3)]; exact hB4.out
      have rE := (block_cells (n := 6) g2 rfl).1
      have rF := (block_cells (n := 6) g4 rfl).1
      have rG := (block_cells (n := 6) g4 rfl).2
      rw [← hW2] at rE rF rG
      clear r2 r2f r4 r4f
      replace g2 := Lib.hid g2
      replace g4 := Lib.hid g4
      replace hW2 := Lib.hid hW2
      go_wp2
      have g5 : (W2.setCells b4 0 [.slice (some ⟨b1, 0, none⟩) n cap, .slice none 0 0, I d.ar, I d.dm, .bool d.dark, I (d.ops : Nat)]).heap[b4]? = some (.cells #[.slice (some ⟨b1, 0, none⟩) n cap, .slice none 0 0, I d.ar, I d.dm, .bool d.dark, I (d.ops : Nat)] 32 (0, 0)) := by
        have := setCells_block b4 32 (0, 0) [.slice (some ⟨b1, 0, none⟩) n cap, .slice none 0 0, I d.ar, I d.dm, .bool d.dark, I (d.ops : Nat)] 0 W2 _ g4.out
        rw [this]; rfl
      rw [hW2.out]
      have kE : Ex w (W2.setCells b4 0 [.slice (some ⟨b1, 0, none⟩) n cap, .slice none 0 0, I d.ar, I d.dm, .bool d.dark, I (d.ops : Nat)]) := by
        refine ex_setCellsK ?_ q5 _ _
        rw [← hW2.out]
        exact ex_set (ex_set hX.out q4 _) q4 _
      refine ret_row Try.results54 Try.underlying32 rfl info_rdk rfl (block_cells g5 rfl).1 rfl ⟨_, rfl, RdN.mk' (d := doneD d L) ?_ (SlV1.nil _ _ _) (fun g hg => Or.inr (by have := Option.some.inj hg; simp only at this; omega)) (fun g hg => by cases hg), kE⟩
      refine own_slv (Z := w.heap.size) (t := 39) (by show (doQ d.has 0 d.qu (keptL L)).length = n; rw [doQ_len]; exact Hn.out) ?_
      show World.ownsRow _ _ _ _ _ _ ((doQ d.has 0 d.qu (keptL L)).flatMap KK)
      rw [his.out]
      refine owns_same hO2.out fun b hb => ?_
      obtain rfl : b1 = b := Option.some.inj hb
      rw [setCells_heap _ _ _ _ _ (Ne.symm q2), ← hW2.out, setCell_heap _ (Ne.symm q1), setCell_heap _ (Ne.symm q1)]
end Go.Proofs.Ytdohohafdplkiaa
