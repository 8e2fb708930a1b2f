import Derived.Test.YtabjamkkhlbajaaDoorMWlD
import Derived.Test.YtabjamkkhlbajaaDoorMDkP
import Derived.Test.YtabjamkkhlbajaaDoorMDraw

/- The log: its closures: sectors that are written. -/
set_option linter.unusedSimpArgs false
set_option linter.unusedVariables false
set_option linter.unnecessarySimpa false
set_option maxRecDepth 20000
namespace Go.Proofs.YtabjamkkhlbajaaDoor
open Go.RowKit
theorem writes_cons (d : Dk) (a : Int) (b : Bk) (r : List Bk) : writesD d a (b :: r) = thenD (writeD d a b) fun d => writesD d (a + 1) r := rfl
theorem writes_one (d : Dk) (a : Int) (b : Bk) : writesD d a [b] = writeD d a b := by
  rw [writes_cons]
  unfold thenD
  split
  · rename_i h
    show ((writeD d a b).1, (0 : Int)) = _
    rw [← h]
  · rfl
theorem writes_app : ∀ (l r : List Bk) (d : Dk) (a : Int), writesD d a (l ++ r) = thenD (writesD d a l) fun d => writesD d (a + l.length) r
  | [], r, d, a => by
    show writesD d a r = thenD (d, 0) _
    unfold thenD
    rw [if_pos rfl]
    simp
  | b :: l, r, d, a => by
    have ih := writes_app l r (writeD d a b).1 (a + 1)
    rw [List.cons_append, writes_cons, writes_cons]
    by_cases h : (writeD d a b).2 = 0
    · have e : thenD (writeD d a b) (fun d => writesD d (a + 1) (l ++ r)) = writesD (writeD d a b).1 (a + 1) (l ++ r) := by unfold thenD; rw [if_pos h]
      have e2 : thenD (writeD d a b) (fun d => writesD d (a + 1) l) = writesD (writeD d a b).1 (a + 1) l := by unfold thenD; rw [if_pos h]
      rw [e, e2, ih, List.length_cons, show a + 1 + (l.length : Int) = a + ((l.length + 1 : Nat) : Int) by push_cast; omega]
    · have e : thenD (writeD d a b) (fun d => writesD d (a + 1) (l ++ r)) = writeD d a b := by unfold thenD; rw [if_neg h]
      have e2 : thenD (writeD d a b) (fun d => writesD d (a + 1) l) = writeD d a b := by unfold thenD; rw [if_neg h]
      rw [e, e2]
      unfold thenD
      rw [if_neg h]
theorem writes_take {d : Dk} {a : Int} {bs : List Bk} {k : Nat} {b : Bk} (hb : bs[k]? = some b) (h0 : (writesD d a (bs.take k)).2 = 0) :
    writesD d a (bs.take (k + 1)) = writeD (writesD d a (bs.take k)).1 (a + k) b := by
  obtain ⟨hk, hbk⟩ := List.getElem?_eq_some_iff.1 hb
  rw [List.take_succ_eq_append_getElem hk, writes_app, hbk]
  have e : thenD (writesD d a (bs.take k)) (fun d => writesD d (a + (bs.take k).length) [b]) = writesD (writesD d a (bs.take k)).1 (a + (bs.take k).length) [b] := by unfold thenD; rw [if_pos h0]
  rw [e, writes_one, List.length_take, Nat.min_eq_left (by omega)]
theorem writes_fail {d : Dk} {a : Int} {bs : List Bk} {k : Nat} (h : (writesD d a (bs.take k)).2 ≠ 0) : writesD d a bs = writesD d a (bs.take k) := by
  conv => lhs; rw [← List.take_append_drop k bs]
  rw [writes_app]
  unfold thenD
  rw [if_neg h]
/-- What is not a disk's own goes on not being so. -/
theorem Dv.notown {L L' : Loc} {w w' : World} (h : Dv L w L' w') {b : Nat} (hb : b < w.heap.size) (hn : ¬ L.own b) : ¬ L'.own b := fun e => (h.own e).elim hn fun e2 => by omega
set_option maxHeartbeats 2000000 in
theorem writes1_any {w : World} {L : Loc} {d : Dk} (h : DkAt w L d) (bl bw ba p : Nat) (lv : Value) (bs : List Bk) (at_ : Nat)
    (hl : w.heap[bl]? = some (.cells #[lv] 69 (0, 0))) (hw : w.heap[bw]? = some (.cells #[PT p] 24 (0, 0))) (ha : w.heap[ba]? = some (.cells #[I at_] 3 (0, 0))) (hp : w.cell? ⟨p, 9, none⟩ = some (PT L.p))
    (hs : SlV1 KK 64 w lv bs) (n1 : ¬ L.own bl) (n2 : ¬ L.own bw) (n3 : ¬ L.own ba) (n4 : ¬ L.own p) (n5 : ∀ g, lv.ownBlock = some g → ¬ L.own g ∧ g < w.heap.size)
    (hops : d.ops + bs.length < 1000000000) (hq : d.qu.length + bs.length < 1000000) (hat : at_ ≤ 1000000) :
    Calls Tryd.prog 58 #[PT bl, PT bw, PT ba] w (PostD w L (writesD d at_ bs).1 (I (writesD d at_ bs).2)) := by
  obtain ⟨la, lc, rfl, l1, l2, l3, l4⟩ := hs.out
  have hpz := cellW_lt hp
  have zl := (Array.getElem?_eq_some_iff.1 hl).1
  have zw := (Array.getElem?_eq_some_iff.1 hw).1
  have za := (Array.getElem?_eq_some_iff.1 ha).1
  have c1 := (block_cellF (o := 0) (v := .slice la bs.length lc) hl rfl).1
  obtain ⟨n, hn⟩ : ∃ n, bs.length = n := ⟨_, rfl⟩
  have HN := Lib.hid hn
  have HS := Lib.hid l4
  have HW := Lib.hid h
  rw [hn] at l1 c1 hops hq n5
  clear hs l4 h hn
  go_enter Tryd.func58, Tryd.ntmps58
  go_wp2
  have hsame : Hid (∀ W L', Dv L w L' W → W.heap[bl]? = w.heap[bl]? ∧ W.heap[bw]? = w.heap[bw]? ∧ W.heap[ba]? = w.heap[ba]? ∧ W.heap[p]? = w.heap[p]? ∧ SlR KK 64 W la bs) := Lib.hid fun W L' k =>
    ⟨k.same _ zl n1, k.same _ zw n2, k.same _ za n3, k.same _ hpz n4, HS.out.keep k.size fun g n' c hg => by
      have hg2 : (Value.slice la n lc).ownBlock = some g := by rcases la with _ | ⟨q1, q2, _ | q3⟩ <;> exact hg
      exact k.same g (n5 g hg2).2 (n5 g hg2).1⟩
  go_loopw [9] (fun i W => ∃ (k : Nat) (L' : Loc), k ≤ n ∧ i = I k ∧ Hid ((writesD d at_ (bs.take k)).2 = 0 ∧ DkAt W L' (writesD d at_ (bs.take k)).1 ∧ Dv L w L' W)) (fun i _ => n - (intOf i).toNat)
  case atStart => exact ⟨0, L, by omega, rfl, Lib.hid ⟨rfl, HW.out, Dv.refl _ _⟩⟩
  case round =>
    obtain ⟨k, L', hk, rfl, HD⟩ := hrel
    obtain ⟨h0, hD, hV⟩ := HD.out
    obtain ⟨s1, s2, s3, s4, s5⟩ := hsame.out wr L' hV
    by_cases hlt : k < n
    · obtain ⟨x, hx⟩ : ∃ x, bs[k]? = some x := ⟨_, List.getElem?_eq_getElem (by rw [HN.out]; omega)⟩
      obtain ⟨g, off, hla, hg, hcell⟩ := s5.pos (by rw [HN.out]; omega)
      have hck := hcell k x hx
      have hwt := writes_take hx h0
      have hwo := writes_ops (bs.take k) d (at_ : Int)
      rw [List.length_take, HN.out] at hwo
      have hxK : (KK x).toArray = rowB 64 (bkF x) := KK_back x
      rw [hxK] at hck
      have HWr := Lib.hid fun W (kW : Ex wr W) => write_any (hD.ex kW) ((at_ : Int) + k) x (by omega) (by omega) (by omega) (by omega)
      rw [← hwt, hV.pp] at HWr
      have e1 := (block_cellF (o := 0) (v := PT p) (s2.trans hw) rfl).1
      have e2 := (block_cellF (o := 0) (v := I at_) (s3.trans ha) rfl).1
      have e3 : wr.cell? ⟨p, 9, none⟩ = some (PT L.p) := by rw [← hp]; simp only [World.cell?, s4]
      have y1 := cellW_lt e1
      have y2 := cellW_lt e2
      have y3 := cellW_lt e3
      subst hla
      have hkn : (k : Int) < n := by omega
      obtain ⟨P, hP⟩ : ∃ P : Nat → Prop, P = L'.own := ⟨_, rfl⟩
      have q2 : ¬ P bw := by rw [hP]; exact hV.notown zw n2
      have q3 : ¬ P ba := by rw [hP]; exact hV.notown za n3
      have q4 : ¬ P p := by rw [hP]; exact hV.notown hpz n4
      have q5 : ¬ P wr.heap.size := by rw [hP]; intro e; exact absurd (hD.lt e) (by omega)
      have HPo : Hid (∀ (W1 : World) w4 L2, Dv L' W1.drew L2 w4 → ∀ k, k < W1.heap.size → ¬ P k → w4.heap[k]? = W1.heap[k]?) := Lib.hid fun W1 w4 L2 hv k h1 h2 => hv.same k h1 (by rw [← hP]; exact h2)
      clear hD hx hwt hwo hxK hcell s1 s2 s3 s4 s5 HD hP
      go_wp2
      obtain ⟨r1, hr1⟩ : ∃ r, writesD d at_ (bs.take (k + 1)) = r := ⟨_, rfl⟩
      rw [hr1] at HWr
      replace hr1 := Lib.hid hr1
      obtain ⟨d1, er⟩ := r1
      dsimp only at HWr
      refine wp_region_forkH (fun w' => ∃ X, w' = kp (wr.alloc (.cells (rowB 64 (bkF x)) 75)) P X) (.look 0 (.look 1 (.look 2 (.look 3 (.look 4 (.look 5 (.look 6 (.look 7 (.eff 8 (.look 9 .done)))))))))) (⟨_, kp_of (fun _ _ _ => rfl)⟩) (by kernel_rfl) (by kernel_rfl) (fun _ _ d _ _ h => by cases d <;> exact h) ?_
      simp only [Fk.ops, nth]
      repeat (first | ((with_reducible refine wpForkH_look ?_); go_big_quiet_step (fail); (try (with_reducible refine wpQuiet_nil ?_))) | (with_reducible refine wpForkH_eff ?_) | ((with_reducible refine effH_F ?_ ?_); (focus rfl); go_simp) | ((with_reducible refine effH_T ?_ ?_); (focus rfl); (try dsimp only); go_wp2_with ((go_at_call 59; (with_reducible refine (HWr.out _ (by (try show Ex _ _); with_reducible repeat (first | exact ex_refl _ | assumption | refine ex_drewL ?_ | refine ex_appR ?_ _ | refine ex_wx ?_ _ | refine ex_drew ?_ | refine ex_alloc ?_ _))).mono ?_); rintro e w4 ⟨L2, rfl, hD4, hV4⟩; replace hD4 := Lib.hid hD4; replace hV4 := Lib.hid hV4)); (first | done | refine mixQH_mk (⟨_, kp_of (HPo.out _ _ _ hV4.out)⟩) ?_)))
      all_goals (with_reducible refine wpForkH_nil ?_)
      have hV5 : Hid (Dv L w L2 w4) := Lib.hid ((hV.grow (by (try show Ex _ _); with_reducible repeat (first | exact ex_refl _ | assumption | refine ex_drewL ?_ | refine ex_appR ?_ _ | refine ex_wx ?_ _ | refine ex_drew ?_ | refine ex_alloc ?_ _))).trans hV4.out)
      clear HPo hck e1 e2 e3 HWr hV4 q5 q2 q3 q4
      by_cases he : er = 0
      · subst he
        go_wp2
        exact ⟨⟨k + 1, L2, by omega, by go_num, Lib.hid ⟨by rw [hr1.out], by rw [hr1.out]; exact hD4.out, hV5.out⟩⟩, by simp [intOf]; omega⟩
      · have he2 : (er == 0) = false := beq_eq_false_iff_ne.2 he
        have hwf : writesD d at_ bs = (d1, er) := by rw [writes_fail (k := k + 1) (by rw [hr1.out]; exact he), hr1.out]
        replace hwf := Lib.hid hwf
        go_wp2
        go_ret
        rw [hwf.out]
        exact ⟨L2, rfl, hD4.out, hV5.out⟩
    · obtain rfl : k = n := by omega
      rw [List.take_of_length_le (Nat.le_of_eq HN.out)] at h0 hD
      have hfin : Hid (PostD w L (writesD d at_ bs).1 (I (writesD d at_ bs).2) (.returned (I 0)) wr) := Lib.hid ⟨L', by rw [h0], hD, hV⟩
      clear h0 hD hV HD s1 s2 s3 s4 s5 hlt
      go_wp2
      go_ret
      exact hfin.out
end Go.Proofs.YtabjamkkhlbajaaDoor

/- The log: one thing behind the other. -/
set_option linter.unusedSimpArgs false
set_option linter.unusedVariables false
set_option linter.unnecessarySimpa false
set_option maxRecDepth 20000
namespace Go.Proofs.YtabjamkkhlbajaaDoor
open Go.RowKit
/-- What is done: writes, a sync, a head. -/
inductive Fv where
  | wr (a b c : Nat)
  | sy (p : Nat)
  | hd (a b : Nat)
def valF : Fv → Value
  | .wr a b c => .func (.func 58) #[] #[PT a, PT b, PT c]
  | .sy p => .func (.func 37) #[PT p] #[]
  | .hd a b => .func (.func 64) #[] #[PT a, PT b]
def callF (f : Fv) (w : World) (Q : Ending → World → Prop) : Prop := match f with
  | .wr a b c => Calls Tryd.prog 58 #[PT a, PT b, PT c] w Q
  | .sy p => Calls Tryd.prog 37 #[PT p] w Q
  | .hd a b => Calls Tryd.prog 64 #[PT a, PT b] w Q
/-- One behind the other, till one fails. -/
def AllQ (g : Nat) (Q : Int → World → Prop) : List Fv → World → Prop
  | [], w => Q 0 w
  | f :: r, w => callF f w fun e w' => ∃ c, e = .returned (I c) ∧ w'.heap[g]? = w.heap[g]? ∧ (c ≠ 0 → Q c w') ∧ (c = 0 → AllQ g Q r w')
set_option maxHeartbeats 2000000 in
theorem all_any {Q : Int → World → Prop} (fs : List Fv) (w : World) (g n : Nat) (hn : fs.length = n) (hnm : n ≤ 1000) (hg : w.heap[g]? = some (.cells (fs.map valF).toArray 67 (0, 0))) (h : AllQ g Q fs w) :
    Calls Tryd.prog 35 #[.slice (some ⟨g, 0, none⟩) n n] w (fun e w' => ∃ c, e = .returned (I c) ∧ Q c w') := by
  have HN := Lib.hid hn
  have HG0 := Lib.hid hg
  have HA0 := Lib.hid h
  clear hn hg h
  go_enter Tryd.func35, Tryd.ntmps35
  go_wp2
  go_loopw [8] (fun i W => ∃ k : Nat, k ≤ n ∧ i = I k ∧ Hid (W.heap[g]? = some (.cells (fs.map valF).toArray 67 (0, 0))) ∧ Hid (AllQ g Q (fs.drop k) W)) (fun i _ => n - (intOf i).toNat)
  case atStart => exact ⟨0, by omega, rfl, HG0, Lib.hid (by rw [List.drop_zero]; exact HA0.out)⟩
  case round =>
    obtain ⟨k, hk, rfl, HG, HA⟩ := hrel
    by_cases hlt : k < n
    · have hkl : k < fs.length := by rw [HN.out]; exact hlt
      obtain ⟨f, hf⟩ : ∃ f, fs[k] = f := ⟨_, rfl⟩
      have hA := HA.out
      rw [List.drop_eq_getElem_cons hkl, hf] at hA
      have hc : wr.cell? ⟨g, k, none⟩ = some (valF f) := by
        rw [cell_of_row wr g k _ _ _ HG.out, List.getElem?_toArray, List.getElem?_map, List.getElem?_eq_getElem hkl, hf]; rfl
      have zg := cellW_lt hc
      have hkn : (k : Int) < n := by omega
      clear HA hkl hf HG0 HA0
      unfold AllQ at hA
      cases f with
      | wr a b c =>
        have HC := Lib.hid (show Calls Tryd.prog 58 #[PT a, PT b, PT c] wr _ from hA)
        unfold valF at hc
        clear hA
        go_wp2_with (go_at_call 58; (with_reducible refine HC.out.mono ?_); rintro e w4 ⟨er, rfl, h1, h3, h4⟩; replace h1 := Lib.hid h1; replace h3 := Lib.hid h3; replace h4 := Lib.hid h4)
        all_goals first | exact ⟨⟨k + 1, by omega, by go_num, Lib.hid (h1.out.trans HG.out), Lib.hid (h4.out (by first | assumption | omega | simp_all))⟩, by simp [intOf]; omega⟩ | (go_ret; exact ⟨_, rfl, h3.out (by first | assumption | omega | simp_all)⟩)
      | sy p =>
        have HC := Lib.hid (show Calls Tryd.prog 37 #[PT p] wr _ from hA)
        unfold valF at hc
        clear hA
        go_wp2_with (go_at_call 37; (with_reducible refine HC.out.mono ?_); rintro e w4 ⟨er, rfl, h1, h3, h4⟩; replace h1 := Lib.hid h1; replace h3 := Lib.hid h3; replace h4 := Lib.hid h4)
        all_goals first | exact ⟨⟨k + 1, by omega, by go_num, Lib.hid (h1.out.trans HG.out), Lib.hid (h4.out (by first | assumption | omega | simp_all))⟩, by simp [intOf]; omega⟩ | (go_ret; exact ⟨_, rfl, h3.out (by first | assumption | omega | simp_all)⟩)
      | hd a b =>
        have HC := Lib.hid (show Calls Tryd.prog 64 #[PT a, PT b] wr _ from hA)
        unfold valF at hc
        clear hA
        go_wp2_with (go_at_call 64; (with_reducible refine HC.out.mono ?_); rintro e w4 ⟨er, rfl, h1, h3, h4⟩; replace h1 := Lib.hid h1; replace h3 := Lib.hid h3; replace h4 := Lib.hid h4)
        all_goals first | exact ⟨⟨k + 1, by omega, by go_num, Lib.hid (h1.out.trans HG.out), Lib.hid (h4.out (by first | assumption | omega | simp_all))⟩, by simp [intOf]; omega⟩ | (go_ret; exact ⟨_, rfl, h3.out (by first | assumption | omega | simp_all)⟩)
    · obtain rfl : k = n := by omega
      have hA := HA.out
      rw [List.drop_of_length_le (Nat.le_of_eq HN.out)] at hA
      unfold AllQ at hA
      have HQ := Lib.hid hA
      clear hA HA hlt HG0 HA0
      go_wp2
      go_ret
      exact ⟨_, rfl, HQ.out⟩
end Go.Proofs.YtabjamkkhlbajaaDoor

/- The log: what makes its closures; a log in memory. -/
set_option linter.unusedSimpArgs false
set_option linter.unusedVariables false
set_option linter.unnecessarySimpa false
set_option maxRecDepth 20000
namespace Go.Proofs.YtabjamkkhlbajaaDoor
open Go.RowKit
theorem writes_any (p at_ : Nat) (lv : Value) (hlv : lv.oneCell' = true) (w : World) : Calls Tryd.prog 36 #[PT p, I at_, lv] w
    (fun e w' => e = .returned (valF (.wr (w.heap.size + 1 + 1) w.heap.size (w.heap.size + 1))) ∧ w' = ((w.alloc (.cells #[PT p] 24)).alloc (.cells #[I at_] 3)).alloc (.cells #[lv] 69)) := by
  go_enter Tryd.func36, Tryd.ntmps36
  go_wp2
  go_ret
  exact ⟨rfl, rfl⟩
theorem headf_any (p : Nat) (c : Cm) (w : World) : Calls Tryd.prog 39 #[PT p, .agg (CR c)] w
    (fun e w' => e = .returned (valF (.hd w.heap.size (w.heap.size + 1))) ∧ w' = (w.alloc (.cells #[PT p] 24)).alloc (.cells (CR c) 62)) := by
  go_enter Tryd.func39, Tryd.ntmps39
  go_wp2
  go_ret
  exact ⟨rfl, rfl⟩
/-- All but a log's own block, and its disk's, is kept. -/
structure Wv (p : Nat) (L : Loc) (w : World) (L' : Loc) (w' : World) : Prop where
  fr : Frm (fun b => b = p ∨ L.own b) w w'
  pp : L'.p = L.p
  hh : L'.h = L.h
  qq : ∀ g, L'.q = some g → L.q = some g ∨ w.heap.size ≤ g
theorem Dv.frmO {L L' : Loc} {w w' : World} (h : Dv L w L' w') : Frm L.own w w' := ⟨h.os, h.tape, h.output, h.size, h.same⟩
theorem Wv.ofDv {p : Nat} {L L' : Loc} {w w' : World} (h : Dv L w L' w') : Wv p L w L' w' := ⟨h.frmO.mono fun b hb => Or.inr hb, h.pp, h.hh, h.qq⟩
theorem Wv.own {p : Nat} {L L' : Loc} {w w' : World} (h : Wv p L w L' w') {b : Nat} (hb : L'.own b) : L.own b ∨ w.heap.size ≤ b := by
  rcases hb with rfl | rfl | hb
  · exact Or.inl (Or.inl h.pp)
  · exact Or.inl (Or.inr (Or.inl h.hh))
  · rcases h.qq _ hb with h1 | h1
    · exact Or.inl (Or.inr (Or.inr h1))
    · exact Or.inr h1
theorem Wv.sets {p : Nat} {L L' : Loc} {w w' : World} (h : Wv p L w L' w') (o : Nat) (vs : List Value) : Wv p L w L' (w'.setCells p o vs) := ⟨h.fr.sets (Or.inl rfl) o vs, h.pp, h.hh, h.qq⟩
theorem Wv.set {p : Nat} {L L' : Loc} {w w' : World} (h : Wv p L w L' w') (o : Nat) (v : Value) : Wv p L w L' (w'.setCell ⟨p, o, none⟩ v) := ⟨h.fr.set (Or.inl rfl) o v, h.pp, h.hh, h.qq⟩
theorem Wv.trans {p : Nat} {L1 L2 L3 : Loc} {a b c : World} (h : Wv p L1 a L2 b) (k : Wv p L2 b L3 c) : Wv p L1 a L3 c := by
  refine ⟨⟨k.fr.os.trans h.fr.os, k.fr.tape.trans h.fr.tape, k.fr.output.trans h.fr.output, Nat.le_trans h.fr.size k.fr.size, fun i hi ho => ?_⟩, k.pp.trans h.pp, k.hh.trans h.hh, fun g hg => ?_⟩
  · rw [k.fr.same i (Nat.lt_of_lt_of_le hi h.fr.size) fun e => ?_, h.fr.same i hi ho]
    rcases e with e | e
    · exact ho (Or.inl e)
    · rcases h.own e with h1 | h1
      · exact ho (Or.inr h1)
      · omega
  · rcases k.qq g hg with h1 | h1
    · exact h.qq g h1
    · exact Or.inr (Nat.le_trans h.fr.size h1)
theorem Wv.refl (p : Nat) (L : Loc) (w : World) : Wv p L w L w := Wv.ofDv (Dv.refl _ _)
theorem Wv.grow {p : Nat} {L L' : Loc} {a b c : World} (h : Wv p L a L' b) (k : Ex b c) : Wv p L a L' c := h.trans (Wv.ofDv (Dv.ofEx k))
/-- A log's cells. -/
abbrev WR (c : Cm) (q : Nat) (sv : Value) (br : Bool) : Array Value := #[U4 c.turn, U4 c.n, U4 c.side, U4 c.used, U4 c.all, B (gF c.mark 0), B (gF c.mark 1), B (gF c.mark 2), B (gF c.mark 3), PT q, sv, .bool br]
structure CmB (c : Cm) : Prop where
  h1 : c.turn < 4294967296
  h2 : c.n < 4294967296
  h3 : c.side < 4294967296
  h4 : c.used < 4294967296
  h5 : c.all < 4294967296
  hm : c.mark.length = 4
theorem wr_claim (c c2 : Cm) (q : Nat) (sv : Value) (br : Bool) : spliceA (WR c q sv br) 0 (CR c2).toList = WR c2 q sv br := by kernel_rfl
@[go_sem] theorem buildRun_blk (f : Nat → UInt8) (w : World) : buildRun Tryd.prog 69 (.agg (rowB 64 f)) w = .ok (.value (.slice (some ⟨w.heap.size, 0, none⟩) 1 1)) (w.alloc (.cells (rowB 64 f) 75)) :=
  buildRun_any appBlk (by decide) _ (by kernel_rfl) w
/-- The world in which a head's two things are done. -/
def hdW (W : World) (p a : Nat) (q : Nat) (lb : Bk) : World :=
  ((((W.alloc (.cells (rowB 64 (bkF lb)) 75)).alloc (.cells #[PT p] 24)).alloc (.cells #[I a] 3)).alloc (.cells #[.slice (some ⟨W.heap.size, 0, none⟩) 1 1] 69)).alloc
    (.cells #[valF (.wr (W.heap.size + 1 + 1 + 1) (W.heap.size + 1) (W.heap.size + 1 + 1)), valF (.sy q)] 67)
theorem slv_one {w w' : World} {g : Nat} (b : Bk) (k : Ex (w.alloc (.cells (rowB 64 (bkF b)) 75)) w') (hg : g = w.heap.size) : SlV1 KK 64 w' (.slice (some ⟨g, 0, none⟩) 1 1) [b] := by
  subst hg
  have hb := ex_block k (heap_alloc_new w _)
  refine ⟨_, 1, rfl, Nat.le_refl _, by decide, (fun e => by cases e), ⟨Or.inr ⟨_, 0, rfl, (Array.getElem?_eq_some_iff.1 hb).1, fun i d hd => ?_⟩⟩⟩
  have hi : i = 0 := by
    have := (List.getElem?_eq_some_iff.1 hd).1
    simpa using this
  subst hi
  obtain rfl : b = d := by simpa using hd
  rw [Nat.zero_mul, Nat.add_zero, KK_back]
  exact (block_cellsF hb (by simp)).1
theorem head_all {w W : World} {L : Loc} {d : Dk} (h : DkAt w L d) (k : Ex w W) (p a : Nat) (c : Cm) (lb : Bk) (hlb : layB HW c = lb) (ha : c.turn % 2 = a) (hp : w.cell? ⟨p, 9, none⟩ = some (PT L.p)) (n1 : ¬ L.own p) (hops : d.ops + 2 < 1000000000) (hq : d.qu.length + 1 < 1000000) :
    Calls Tryd.prog 35 #[.slice (some ⟨W.heap.size + 1 + 1 + 1 + 1, 0, none⟩) 2 2] (hdW W p a L.p lb) (fun e w' => ∃ L', e = .returned (I (headD HW d c).2) ∧ DkAt w' L' (headD HW d c).1 ∧ Dv L (hdW W p a L.p lb) L' w') := by
  have hW := h.ex k
  have hk1 : Ex W (hdW W p a L.p lb) := by unfold hdW; exact (by (try show Ex _ _); with_reducible repeat (first | exact ex_refl _ | assumption | refine ex_drewL ?_ | refine ex_appR ?_ _ | refine ex_wx ?_ _ | refine ex_drew ?_ | refine ex_alloc ?_ _))
  have hsz : ∀ b, L.own b → b < W.heap.size := fun b hb => hW.lt hb
  have b0 : (hdW W p a L.p lb).heap[W.heap.size + 1]? = some (.cells #[PT p] 24 (0, 0)) := by
    unfold hdW
    refine ex_block (w := (W.alloc (.cells (rowB 64 (bkF lb)) 75)).alloc (.cells #[PT p] 24)) (by (try show Ex _ _); with_reducible repeat (first | exact ex_refl _ | assumption | refine ex_drewL ?_ | refine ex_appR ?_ _ | refine ex_wx ?_ _ | refine ex_drew ?_ | refine ex_alloc ?_ _)) ?_
    rw [← World.size_alloc W (.cells (rowB 64 (bkF lb)) 75)]
    exact heap_alloc_new _ _
  have b1 : (hdW W p a L.p lb).heap[W.heap.size + 1 + 1]? = some (.cells #[I a] 3 (0, 0)) := by
    unfold hdW
    refine ex_block (w := ((W.alloc (.cells (rowB 64 (bkF lb)) 75)).alloc (.cells #[PT p] 24)).alloc (.cells #[I a] 3)) (by (try show Ex _ _); with_reducible repeat (first | exact ex_refl _ | assumption | refine ex_drewL ?_ | refine ex_appR ?_ _ | refine ex_wx ?_ _ | refine ex_drew ?_ | refine ex_alloc ?_ _)) ?_
    have := heap_alloc_new ((W.alloc (.cells (rowB 64 (bkF lb)) 75)).alloc (.cells #[PT p] 24)) (.cells #[I a] 3)
    simpa only [World.size_alloc] using this
  have b2 : (hdW W p a L.p lb).heap[W.heap.size + 1 + 1 + 1]? = some (.cells #[.slice (some ⟨W.heap.size, 0, none⟩) 1 1] 69 (0, 0)) := by
    unfold hdW
    refine ex_block (w := (((W.alloc (.cells (rowB 64 (bkF lb)) 75)).alloc (.cells #[PT p] 24)).alloc (.cells #[I a] 3)).alloc (.cells #[.slice (some ⟨W.heap.size, 0, none⟩) 1 1] 69)) (by (try show Ex _ _); with_reducible repeat (first | exact ex_refl _ | assumption | refine ex_drewL ?_ | refine ex_appR ?_ _ | refine ex_wx ?_ _ | refine ex_drew ?_ | refine ex_alloc ?_ _)) ?_
    have := heap_alloc_new (((W.alloc (.cells (rowB 64 (bkF lb)) 75)).alloc (.cells #[PT p] 24)).alloc (.cells #[I a] 3)) (.cells #[.slice (some ⟨W.heap.size, 0, none⟩) 1 1] 69)
    simpa only [World.size_alloc] using this
  have b3 : (hdW W p a L.p lb).heap[W.heap.size + 1 + 1 + 1 + 1]? = some (.cells #[valF (.wr (W.heap.size + 1 + 1 + 1) (W.heap.size + 1) (W.heap.size + 1 + 1)), valF (.sy L.p)] 67 (0, 0)) := by
    have := heap_alloc_new ((((W.alloc (.cells (rowB 64 (bkF lb)) 75)).alloc (.cells #[PT p] 24)).alloc (.cells #[I a] 3)).alloc (.cells #[.slice (some ⟨W.heap.size, 0, none⟩) 1 1] 69)) (.cells #[valF (.wr (W.heap.size + 1 + 1 + 1) (W.heap.size + 1) (W.heap.size + 1 + 1)), valF (.sy L.p)] 67)
    unfold hdW
    simpa only [World.size_alloc] using this
  have hS : SlV1 KK 64 (hdW W p a L.p lb) (.slice (some ⟨W.heap.size, 0, none⟩) 1 1) [lb] := slv_one lb (by unfold hdW; exact (by (try show Ex _ _); with_reducible repeat (first | exact ex_refl _ | assumption | refine ex_drewL ?_ | refine ex_appR ?_ _ | refine ex_wx ?_ _ | refine ex_drew ?_ | refine ex_alloc ?_ _))) rfl
  have hs1 : (hdW W p a L.p lb).heap.size = W.heap.size + 5 := by unfold hdW; simp only [World.size_alloc]
  generalize hdW W p a L.p lb = W1 at *
  have hD1 := hW.ex hk1
  have hz : ∀ b, W.heap.size ≤ b → ¬ L.own b := fun b hb e => by have := hsz b e; omega
  have hp1 : W1.cell? ⟨p, 9, none⟩ = some (PT L.p) := by
    obtain ⟨X, rfl⟩ := ex_trans k hk1
    rw [wx_cell _ _ _ (cellW_lt hp)]; exact hp
  have hwr := writes1_any hD1 (W.heap.size + 1 + 1 + 1) (W.heap.size + 1) (W.heap.size + 1 + 1) p (.slice (some ⟨W.heap.size, 0, none⟩) 1 1) [lb] a b2 b0 b1 hp1 hS (hz _ (by omega)) (hz _ (by omega)) (hz _ (by omega)) n1 (fun g hg => by
    obtain rfl : W.heap.size = g := Option.some.inj hg
    exact ⟨hz _ (Nat.le_refl _), by omega⟩) (by simp; omega) (by simp; omega) (by omega)
  have hwo := writes_ops [lb] d (a : Int)
  simp only [List.length_cons, List.length_nil] at hwo
  refine (all_any (Q := fun c' w' => ∃ L', c' = (headD HW d c).2 ∧ DkAt w' L' (headD HW d c).1 ∧ Dv L W1 L' w') [.wr (W.heap.size + 1 + 1 + 1) (W.heap.size + 1) (W.heap.size + 1 + 1), .sy L.p] W1 _ 2 rfl (by omega) b3 ?_).mono fun e w' ⟨c', he, L', hc', h1, h2⟩ => ⟨L', by rw [he, hc'], h1, h2⟩
  unfold headD
  rw [hlb, ha]
  refine hwr.mono ?_
  rintro e w' ⟨L', rfl, hD2, hV2⟩
  refine ⟨_, rfl, hV2.same _ (by omega) (hz _ (by omega)), fun hne => ?_, fun h0 => ?_⟩
  · unfold thenD
    rw [if_neg hne]
    exact ⟨L', rfl, hD2, hV2⟩
  · unfold thenD
    rw [if_pos h0]
    have hsy := sync_any hD2 (by omega)
    rw [hV2.pp] at hsy
    refine hsy.mono ?_
    rintro e w2 ⟨L2, rfl, hD3, hV3⟩
    refine ⟨_, rfl, ?_, fun _ => ⟨L2, rfl, hD3, hV2.trans hV3⟩, fun e0 => ⟨L2, e0.symm, hD3, hV2.trans hV3⟩⟩
    exact hV3.same _ (Nat.lt_of_lt_of_le (by omega) hV2.size) (hV2.notown (by omega) (hz _ (by omega)))
/-- What a head leads to. -/
def PostHd (p : Nat) (L : Loc) (w : World) (c c0 : Cm) (d : Dk) (sv : Value) (br : Bool) (e : Ending) (w' : World) : Prop :=
  ∃ L', e = .returned (I (headD HW d c).2) ∧ DkAt w' L' (headD HW d c).1 ∧ Wv p L w L' w' ∧ w'.heap[p]? = some (.cells (WR (if (headD HW d c).2 = 0 then c else c0) L.p sv br) 64 (0, 0))
end Go.Proofs.YtabjamkkhlbajaaDoor

/- The log: a head is laid. -/
set_option linter.unusedSimpArgs false
set_option linter.unusedVariables false
set_option linter.unnecessarySimpa false
set_option maxRecDepth 20000
namespace Go.Proofs.YtabjamkkhlbajaaDoor
open Go.RowKit
set_option maxHeartbeats 2000000 in
theorem head1_any {w0 w : World} (G : Glob w0) (k0 : Ex w0 w) {L : Loc} {d : Dk} (h : DkAt w L d) (p bw bc : Nat) (c c0 : Cm) (sv : Value) (br : Bool) (hcB : CmB c)
    (hp : w.heap[p]? = some (.cells (WR c0 L.p sv br) 64 (0, 0))) (hw : w.heap[bw]? = some (.cells #[PT p] 24 (0, 0))) (hc : w.heap[bc]? = some (.cells (CR c) 62 (0, 0)))
    (n1 : ¬ L.own p) (n2 : ¬ L.own bw) (n3 : ¬ L.own bc) (hops : d.ops + 2 < 1000000000) (hq : d.qu.length + 1 < 1000000) :
    Calls Tryd.prog 64 #[PT bw, PT bc] w (PostHd p L w c c0 d sv br) := by
  have zp := (Array.getElem?_eq_some_iff.1 hp).1
  have zw := (Array.getElem?_eq_some_iff.1 hw).1
  have zc := (Array.getElem?_eq_some_iff.1 hc).1
  have e1 := (block_cellF (o := 0) (v := PT p) hw rfl).1
  have e2 := (block_cellF (o := 9) (v := PT L.p) hp rfl).1
  have e3 := (block_cellF (o := 0) (v := U4 c.turn) hc rfl).1
  have e4 := (block_cellsF (n := 9) hc rfl).1
  obtain ⟨P, hP⟩ : ∃ P : Nat → Prop, P = L.own := ⟨_, rfl⟩
  have q1 : ¬ P p := by rw [hP]; exact n1
  have q2 : ¬ P bw := by rw [hP]; exact n2
  have q3 : ¬ P bc := by rw [hP]; exact n3
  have HL : Hid (∀ w', Ex w w' → Calls Tryd.prog 65 #[.agg (CR c)] w' (Post w' (.agg (rowB 64 (bkF (layB HW c)))))) := Lib.hid fun w' k => lay_any G (ex_trans k0 k) c hcB.h1 hcB.h2 hcB.h3 hcB.h4 hcB.h5 hcB.hm
  obtain ⟨lb, hlb⟩ : ∃ lb, layB HW c = lb := ⟨_, rfl⟩
  rw [hlb] at HL
  have HLb := Lib.hid hlb
  obtain ⟨a, ha⟩ : ∃ a, c.turn % 2 = a := ⟨_, rfl⟩
  have HA := Lib.hid ha
  have ha2 : (c.turn : Int) % 2 = a := by omega
  have hal : a ≤ 1 := by omega
  have HD := Lib.hid h
  clear hlb ha h
  go_enter Tryd.func64, Tryd.ntmps64
  go_wp2
  have HEx : Hid (∀ W, Ex w W → ∀ k, k < w.heap.size → ¬ P k → W.heap[k]? = w.heap[k]?) := Lib.hid fun W kW k h1 _ => (ex_below kW).block k h1
  have HWs := Lib.hid fun w' (lv : Value) (h : lv.oneCell' = true) => writes_any p a lv h w'
  have HAl := Lib.hid fun X => head_all HD.out (show Ex w (wx w X) from ⟨X, rfl⟩) p a c lb HLb.out HA.out e2 n1 hops hq
  unfold valF at HWs
  unfold hdW valF at HAl
  simp only [wx_size] at HAl
  have HPo : Hid (∀ (W : World) w4 L2, Ex w W → Dv L W L2 w4 → ∀ k, k < w.heap.size → ¬ P k → w4.heap[k]? = w.heap[k]?) := Lib.hid fun W w4 L2 kW hv k h1 h2 => (hv.same k (Nat.lt_of_lt_of_le h1 (ex_size kW)) (by rw [← hP]; exact h2)).trans ((ex_below kW).block k h1)
  refine wp_region_forkH (fun w' => ∃ X, w' = kp w P X) (.look 0 (.look 1 (.look 2 (.look 3 (.look 4 (.look 5 (.look 9 (.look 10 (.look 11 (.look 12 (.look 13 (.eff 6 (.eff 7 (.eff 8 (.eff 14 (.eff 15 (.look 16 .done))))))))))))))))) (⟨_, kp_of (fun _ _ _ => rfl)⟩) (by kernel_rfl) (by kernel_rfl) (fun _ _ d _ _ h => by cases d <;> exact h) ?_
  simp only [Fk.ops, nth]
  repeat (first | ((with_reducible refine wpForkH_look ?_); go_big_quiet_step (fail); (try (with_reducible refine wpQuiet_nil ?_))) | (with_reducible refine wpForkH_eff ?_) | ((with_reducible refine effH_F ?_ ?_); (focus rfl); go_simp) | ((with_reducible refine effH_T ?_ ?_); (focus rfl); (try dsimp only); go_wp2_with (first | (go_at_call 65; (with_reducible refine (HL.out _ (by (try show Ex _ _); with_reducible repeat (first | exact ex_refl _ | assumption | refine ex_drewL ?_ | refine ex_appR ?_ _ | refine ex_wx ?_ _ | refine ex_drew ?_ | refine ex_alloc ?_ _))).mono ?_); rintro e w3 ⟨rfl, X3, rfl⟩) | (go_at_call 36; (with_reducible refine (HWs.out _ _ rfl).mono ?_); rintro e w4 ⟨rfl, rfl⟩) | (go_at_call 35; (with_reducible refine (HAl.out _).mono ?_); rintro e w5 ⟨L2, rfl, hD5, hV4⟩; replace hD5 := Lib.hid hD5; replace hV4 := Lib.hid hV4)); (first | done | refine mixQH_mk (⟨_, kp_of (by first | exact HPo.out _ _ _ (by (try show Ex _ _); with_reducible repeat (first | exact ex_refl _ | assumption | refine ex_drewL ?_ | refine ex_appR ?_ _ | refine ex_wx ?_ _ | refine ex_drew ?_ | refine ex_alloc ?_ _)) hV4.out | exact HEx.out _ (by (try show Ex _ _); with_reducible repeat (first | exact ex_refl _ | assumption | refine ex_drewL ?_ | refine ex_appR ?_ _ | refine ex_wx ?_ _ | refine ex_drew ?_ | refine ex_alloc ?_ _)))⟩) ?_)))
  all_goals (with_reducible refine wpForkH_nil ?_)
  have hV5 : Dv L w L2 w5 := (Dv.ofEx (show Ex w _ from (by (try show Ex _ _); with_reducible repeat (first | exact ex_refl _ | assumption | refine ex_drewL ?_ | refine ex_appR ?_ _ | refine ex_wx ?_ _ | refine ex_drew ?_ | refine ex_alloc ?_ _)))).trans hV4.out
  have hp5 := (hV5.same p zp n1).trans hp
  have s1 := (block_cellF (o := 0) (v := PT p) ((hV5.same bw zw n2).trans hw) rfl).1
  have s2 := (block_cellsF (n := 9) ((hV5.same bc zc n3).trans hc) rfl).1
  have s3 : cellsN w5 p 0 9 = some (CR c0) := cellsN_some.2 ⟨rfl, fun j hj => by
    rw [Nat.zero_add, cell_of_row w5 p j _ _ _ hp5]
    match j, hj with
    | 0, _ => rfl
    | 1, _ => rfl
    | 2, _ => rfl
    | 3, _ => rfl
    | 4, _ => rfl
    | 5, _ => rfl
    | 6, _ => rfl
    | 7, _ => rfl
    | 8, _ => rfl⟩
  have s4 : frozenN w5 p 0 9 = false := frozenN_false.2 fun j hj => by simp [World.frozen?, hp5]
  have y1 : p < w5.heap.size := (Array.getElem?_eq_some_iff.1 hp5).1
  have y2 := cellW_lt s1
  have y3 : bc < w5.heap.size := Nat.lt_of_lt_of_le zc hV5.size
  obtain ⟨r, hr⟩ : ∃ r, headD HW d c = r := ⟨_, rfl⟩
  have HR := Lib.hid hr
  have hD6 := hD5.out
  rw [hr] at hD6 ⊢
  obtain ⟨d1, er⟩ := r
  dsimp only at hD6 ⊢
  have HP5 := Lib.hid hp5
  have HV5 := Lib.hid hV5
  have HD6 := Lib.hid hD6
  clear hr hD5 hD6 hV4 hV5 hp5 e1 e2 e3 e4 hw hc hp HEx HPo HWs HAl HL
  by_cases he : er = 0
  · subst he
    go_wp2
    go_ret
    unfold PostHd
    rw [HR.out]
    have h8 := setCells_block p 64 (0, 0) (CR c).toList 0 w5 _ HP5.out
    rw [wr_claim] at h8
    have hn : ¬ L2.own p := HV5.out.notown zp n1
    exact ⟨L2, rfl, (by obtain ⟨qv, hM⟩ := HD6.out; exact ⟨qv, hM.keep fun b hb => setCells_heap _ _ _ _ _ fun e => hn (by rw [← e]; exact hb)⟩), (Wv.ofDv HV5.out).sets 0 _, h8⟩
  · have he2 : (er == 0) = false := beq_eq_false_iff_ne.2 he
    go_wp2
    go_ret
    unfold PostHd
    rw [HR.out, if_neg he]
    exact ⟨L2, rfl, HD6.out, Wv.ofDv HV5.out, HP5.out⟩
end Go.Proofs.YtabjamkkhlbajaaDoor

/- The log in memory: its sheets; bytes that are cloned. -/
set_option linter.unusedSimpArgs false
set_option linter.unusedVariables false
set_option linter.unnecessarySimpa false
set_option maxRecDepth 20000
namespace Go.Proofs.YtabjamkkhlbajaaDoor
open Go.RowKit
/-- Bytes in a block of bytes: kept wherever such blocks are. -/
structure TyB (w : World) (v : Value) (l : By) : Prop where
  out : ∃ a c, v = .slice a l.length c ∧ l.length ≤ c ∧ c ≤ maxLen ∧ (a = none → c = 0) ∧ (l = [] ∨ ∃ g off cs fr, a = some ⟨g, off, none⟩ ∧ w.heap[g]? = some (.cells cs 5 fr) ∧ ∀ j, j < l.length → cs[off + j]? = some (B (gF l j)))
theorem TyB.slt {w : World} {v : Value} {l : By} (h : TyB w v l) : SlT w v l := by
  obtain ⟨a, c, rfl, h1, h2, h3, h4⟩ := h.out
  refine ⟨a, c, rfl, h1, h2, h3, ?_⟩
  rcases h4 with rfl | ⟨g, off, cs, fr, rfl, hb, hc⟩
  · exact SlB.zero _ _ _
  · exact SlB.mk' (Array.getElem?_eq_some_iff.1 hb).1 fun j hj => by rw [cell_of_row w g (off + j) _ _ _ hb]; exact hc j hj
theorem OwnW.tyb {w : World} {Z : Nat} {v : Value} {l : By} (h : OwnW w Z v l) : TyB w v l := by
  obtain ⟨a, c, hv, h1, h2, h3, h4⟩ := h.slt.out
  refine ⟨a, c, hv, h1, h2, h3, ?_⟩
  rcases Nat.eq_zero_or_pos l.length with h0 | h0
  · exact Or.inl (List.eq_nil_of_length_eq_zero h0)
  · right
    obtain ⟨g, cap, cur, hv2, k1, k2, k3, k4, k5⟩ := own_block h h0 (by omega)
    rw [hv] at hv2
    obtain ⟨ha, _, _⟩ := Value.slice.inj hv2
    refine ⟨g, 0, cur, (0, 0), ha, k2, fun j hj => ?_⟩
    obtain ⟨g', off, e1, e2, e3⟩ := SlB.pos h4 h0
    rw [ha] at e1
    cases e1
    have := e3 j hj
    rw [cell_of_row w g (0 + j) _ _ _ k2] at this
    exact this
/-- Blocks of bytes, of slices of bytes are kept. -/
def Ky (w w' : World) : Prop := ∀ (g : Nat) (cs : Array Value) (t : TypeId) (fr : Nat × Nat), w.heap[g]? = some (.cells cs t fr) → (t = 5 ∨ t = 22) → w'.heap[g]? = some (.cells cs t fr)
theorem Ky.ex {w w' : World} (k : Ex w w') : Ky w w' := fun g cs t fr h _ => ex_block k h
theorem Ky.trans {a b c : World} (h : Ky a b) (k : Ky b c) : Ky a c := fun g cs t fr h1 h2 => k g cs t fr (h g cs t fr h1 h2) h2
theorem TyB.ky {w w' : World} {v : Value} {l : By} (h : TyB w v l) (k : Ky w w') : TyB w' v l := by
  obtain ⟨a, c, rfl, h1, h2, h3, h4⟩ := h.out
  refine ⟨a, c, rfl, h1, h2, h3, h4.imp id ?_⟩
  rintro ⟨g, off, cs, fr, rfl, hb, hc⟩
  exact ⟨g, off, cs, fr, rfl, k g cs _ fr hb (Or.inl rfl), hc⟩
/-- Sheets: a slice of slices of bytes. -/
structure SlSh (w : World) (v : Value) (ls : List By) : Prop where
  out : ∃ a c, v = .slice a ls.length c ∧ ls.length ≤ c ∧ c ≤ maxLen ∧ (a = none → c = 0) ∧ (ls = [] ∨ ∃ g off cs fr, a = some ⟨g, off, none⟩ ∧ w.heap[g]? = some (.cells cs 22 fr) ∧ ∀ j l, ls[j]? = some l → ∃ u, cs[off + j]? = some u ∧ TyB w u l)
theorem SlSh.ky {w w' : World} {v : Value} {ls : List By} (h : SlSh w v ls) (k : Ky w w') : SlSh w' v ls := by
  obtain ⟨a, c, rfl, h1, h2, h3, h4⟩ := h.out
  refine ⟨a, c, rfl, h1, h2, h3, h4.imp id ?_⟩
  rintro ⟨g, off, cs, fr, rfl, hb, hc⟩
  exact ⟨g, off, cs, fr, rfl, k g cs _ fr hb (Or.inr rfl), fun j l hl => by
    obtain ⟨u, hu, ht⟩ := hc j l hl
    exact ⟨u, hu, ht.ky k⟩⟩
/-- A log in memory, and its disk. -/
structure LgM (w : World) (p : Nat) (L : Loc) (d : Dk) (wl : Wl) : Prop where
  dk : DkAt w L d
  out : ∃ sv, w.heap[p]? = some (.cells (WR wl.c L.p sv wl.br) 64 (0, 0)) ∧ SlSh w sv wl.sh
  po : ¬ L.own p
theorem DkAt.types {w : World} {L : Loc} {d : Dk} (h : DkAt w L d) {g : Nat} (hg : L.own g) : ∃ cs t fr, w.heap[g]? = some (.cells cs t fr) ∧ (t = 89 ∨ t = 75 ∨ t = 113) := by
  obtain ⟨qv, hM⟩ := h.out
  rcases hg with rfl | rfl | hg
  · exact ⟨_, _, _, hM.bp, Or.inl rfl⟩
  · obtain ⟨g', cap, cur, hv, _, hb, _⟩ := own_block hM.bh (by have := hM.ok.n1; omega) (by omega)
    obtain ⟨e, _, _⟩ := Value.slice.inj hv
    cases e
    exact ⟨_, _, _, hb, Or.inr (Or.inl rfl)⟩
  · have hob := hM.qb.trans hg
    rcases hM.bq.2 with h0 | ⟨g', cap, cur, hv, _, hb, _⟩
    · first | (rw [h0.1] at hob; cases hob) | (rw [h0] at hob; cases hob)
    · rw [hv] at hob
      obtain rfl : g' = g := Option.some.inj hob
      exact ⟨_, _, _, hb, Or.inr (Or.inr rfl)⟩
theorem Wv.ky {p : Nat} {L L' : Loc} {w w' : World} {d : Dk} {cs : Array Value} {fr : Nat × Nat} (h : Wv p L w L' w') (hd : DkAt w L d) (hp : w.heap[p]? = some (.cells cs 64 fr)) : Ky w w' := by
  intro g cs2 t fr2 hg ht
  rw [h.fr.same g (Array.getElem?_eq_some_iff.1 hg).1]
  · exact hg
  · rintro (rfl | ho)
    · rw [hp] at hg
      cases hg
      rcases ht with ht | ht <;> exact absurd ht (by decide)
    · obtain ⟨cs3, t3, fr3, h3, ht3⟩ := hd.types ho
      rw [h3] at hg
      cases hg
      rcases ht with rfl | rfl <;> rcases ht3 with ht3 | ht3 | ht3 <;> exact absurd ht3 (by decide)
theorem LgM.ex {w w' : World} {p : Nat} {L : Loc} {d : Dk} {wl : Wl} (h : LgM w p L d wl) (k : Ex w w') : LgM w' p L d wl := by
  obtain ⟨sv, h1, h2⟩ := h.out
  exact ⟨h.dk.ex k, ⟨sv, ex_block k h1, h2.ky (Ky.ex k)⟩, h.po⟩
theorem ownw_empty {w w' : World} {Z g : Nat} (k : Ex (w.alloc (.cells #[] 5)) w') (hg : g = w.heap.size) (hZ : Z ≤ w.heap.size) : OwnW w' Z (.slice (some ⟨g, 0, none⟩) 0 0) [] := by
  subst hg
  exact owns_ex (owns_new (n := 0) (cap := 0) rfl hZ (by omega) (by decide) (by simp) (by simp [Lib.byteCells])) k
def PostTb (w : World) (l : By) (e : Ending) (w' : World) : Prop := ∃ v', e = .returned v' ∧ TyB w' v' l ∧ ∃ X, w' = wx w X
theorem cloneW_any {w : World} {v : Value} {l : By} (hs : SlT w v l) (hl : l.length ≤ 50000) : Calls Tryd.prog 46 #[v] w (PostTb w l) := by
  obtain ⟨a, c, rfl, h1, h2, h3, h4⟩ := id hs.out
  have HS := Lib.hid hs
  clear hs h4
  cases a with
  | none =>
    obtain rfl := h3 rfl
    obtain rfl : l = [] := List.eq_nil_of_length_eq_zero (by omega)
    rw [List.length_nil]
    go_enter Tryd.func46, Tryd.ntmps46
    go_wp2
    go_ret
    exact ⟨_, rfl, ⟨none, 0, rfl, by simp, by decide, fun _ => rfl, Or.inl rfl⟩, (by (try show Ex _ _); with_reducible repeat (first | exact ex_refl _ | assumption | refine ex_drewL ?_ | refine ex_appR ?_ _ | refine ex_wx ?_ _ | refine ex_drew ?_ | refine ex_alloc ?_ _))⟩
  | some ad =>
    clear h3
    go_enter Tryd.func46, Tryd.ntmps46
    go_wp2_with (at_builtin; refine wpAppW (Z := w.heap.size) _ _ rfl rfl (ownw_empty (by (try show Ex _ _); with_reducible repeat (first | exact ex_refl _ | assumption | refine ex_drewL ?_ | refine ex_appR ?_ _ | refine ex_wx ?_ _ | refine ex_drew ?_ | refine ex_alloc ?_ _)) (by simp [go_sem]) (by simp [go_sem])) rfl rfl (HS.out.ex (by (try show Ex _ _); with_reducible repeat (first | exact ex_refl _ | assumption | refine ex_drewL ?_ | refine ex_appR ?_ _ | refine ex_wx ?_ _ | refine ex_drew ?_ | refine ex_alloc ?_ _))) (by simp; omega) (by simp [go_sem]) (fun v1 w1 hown hA => ?_); obtain ⟨X5, rfl⟩ := exOf (A := w) (by (try show Ex _ _); with_reducible repeat (first | exact ex_refl _ | assumption | refine ex_drewL ?_ | refine ex_appR ?_ _ | refine ex_wx ?_ _ | refine ex_drew ?_ | refine ex_alloc ?_ _)) hA)
    go_ret
    rw [List.nil_append] at hown
    exact ⟨v1, rfl, hown.tyb, (by (try show Ex _ _); with_reducible repeat (first | exact ex_refl _ | assumption | refine ex_drewL ?_ | refine ex_appR ?_ _ | refine ex_wx ?_ _ | refine ex_drew ?_ | refine ex_alloc ?_ _))⟩
theorem cloneT_any {w : World} {v : Value} {l : By} (hs : SlT w v l) (hl : l.length ≤ 50000) : Calls Tryd.prog 47 #[v] w (PostTb w l) := by
  obtain ⟨a, c, rfl, h1, h2, h3, h4⟩ := id hs.out
  have HS := Lib.hid hs
  clear hs h4
  cases a with
  | none =>
    obtain rfl := h3 rfl
    obtain rfl : l = [] := List.eq_nil_of_length_eq_zero (by omega)
    rw [List.length_nil]
    go_enter Tryd.func47, Tryd.ntmps47
    go_wp2
    go_ret
    exact ⟨_, rfl, ⟨none, 0, rfl, by simp, by decide, fun _ => rfl, Or.inl rfl⟩, (by (try show Ex _ _); with_reducible repeat (first | exact ex_refl _ | assumption | refine ex_drewL ?_ | refine ex_appR ?_ _ | refine ex_wx ?_ _ | refine ex_drew ?_ | refine ex_alloc ?_ _))⟩
  | some ad =>
    clear h3
    go_enter Tryd.func47, Tryd.ntmps47
    go_wp2_with (at_builtin; refine wpAppW (Z := w.heap.size) _ _ rfl rfl (ownw_empty (by (try show Ex _ _); with_reducible repeat (first | exact ex_refl _ | assumption | refine ex_drewL ?_ | refine ex_appR ?_ _ | refine ex_wx ?_ _ | refine ex_drew ?_ | refine ex_alloc ?_ _)) (by simp [go_sem]) (by simp [go_sem])) rfl rfl (HS.out.ex (by (try show Ex _ _); with_reducible repeat (first | exact ex_refl _ | assumption | refine ex_drewL ?_ | refine ex_appR ?_ _ | refine ex_wx ?_ _ | refine ex_drew ?_ | refine ex_alloc ?_ _))) (by simp; omega) (by simp [go_sem]) (fun v1 w1 hown hA => ?_); obtain ⟨X5, rfl⟩ := exOf (A := w) (by (try show Ex _ _); with_reducible repeat (first | exact ex_refl _ | assumption | refine ex_drewL ?_ | refine ex_appR ?_ _ | refine ex_wx ?_ _ | refine ex_drew ?_ | refine ex_alloc ?_ _)) hA)
    go_ret
    rw [List.nil_append] at hown
    exact ⟨v1, rfl, hown.tyb, (by (try show Ex _ _); with_reducible repeat (first | exact ex_refl _ | assumption | refine ex_drewL ?_ | refine ex_appR ?_ _ | refine ex_wx ?_ _ | refine ex_drew ?_ | refine ex_alloc ?_ _))⟩
end Go.Proofs.YtabjamkkhlbajaaDoor

/- The log: a sheet is laid, and the head that tells of it. -/
set_option linter.unusedSimpArgs false
set_option linter.unusedVariables false
set_option linter.unnecessarySimpa false
set_option maxRecDepth 20000
namespace Go.Proofs.YtabjamkkhlbajaaDoor
open Go.RowKit
/-- The world in which a sheet's three things are done. -/
def ptW (W : World) (p a : Nat) (lv : Value) (c : Cm) (q : Nat) : World :=
  (((((W.alloc (.cells #[PT p] 24)).alloc (.cells #[I a] 3)).alloc (.cells #[lv] 69)).alloc (.cells #[PT p] 24)).alloc (.cells (CR c) 62)).alloc
    (.cells #[valF (.wr (W.heap.size + 1 + 1) W.heap.size (W.heap.size + 1)), valF (.sy q), valF (.hd (W.heap.size + 1 + 1 + 1) (W.heap.size + 1 + 1 + 1 + 1))] 67)
theorem pt_blocks (W : World) (p a : Nat) (lv : Value) (c : Cm) (q : Nat) : Ex W (ptW W p a lv c q) ∧ (ptW W p a lv c q).heap.size = W.heap.size + 6 ∧
    (ptW W p a lv c q).heap[W.heap.size]? = some (.cells #[PT p] 24 (0, 0)) ∧ (ptW W p a lv c q).heap[W.heap.size + 1]? = some (.cells #[I a] 3 (0, 0)) ∧ (ptW W p a lv c q).heap[W.heap.size + 1 + 1]? = some (.cells #[lv] 69 (0, 0)) ∧
    (ptW W p a lv c q).heap[W.heap.size + 1 + 1 + 1]? = some (.cells #[PT p] 24 (0, 0)) ∧ (ptW W p a lv c q).heap[W.heap.size + 1 + 1 + 1 + 1]? = some (.cells (CR c) 62 (0, 0)) ∧
    (ptW W p a lv c q).heap[W.heap.size + 1 + 1 + 1 + 1 + 1]? = some (.cells #[valF (.wr (W.heap.size + 1 + 1) W.heap.size (W.heap.size + 1)), valF (.sy q), valF (.hd (W.heap.size + 1 + 1 + 1) (W.heap.size + 1 + 1 + 1 + 1))] 67 (0, 0)) := by
  unfold ptW
  obtain ⟨W1, h1⟩ : ∃ W1, W.alloc (.cells #[PT p] 24) = W1 := ⟨_, rfl⟩
  obtain ⟨W2, h2⟩ : ∃ W2, W1.alloc (.cells #[I a] 3) = W2 := ⟨_, rfl⟩
  obtain ⟨W3, h3⟩ : ∃ W3, W2.alloc (.cells #[lv] 69) = W3 := ⟨_, rfl⟩
  obtain ⟨W4, h4⟩ : ∃ W4, W3.alloc (.cells #[PT p] 24) = W4 := ⟨_, rfl⟩
  obtain ⟨W5, h5⟩ : ∃ W5, W4.alloc (.cells (CR c) 62) = W5 := ⟨_, rfl⟩
  rw [h1, h2, h3, h4, h5]
  have s1 : W1.heap.size = W.heap.size + 1 := by rw [← h1, World.size_alloc]
  have s2 : W2.heap.size = W.heap.size + 1 + 1 := by rw [← h2, World.size_alloc, s1]
  have s3 : W3.heap.size = W.heap.size + 1 + 1 + 1 := by rw [← h3, World.size_alloc, s2]
  have s4 : W4.heap.size = W.heap.size + 1 + 1 + 1 + 1 := by rw [← h4, World.size_alloc, s3]
  have s5 : W5.heap.size = W.heap.size + 1 + 1 + 1 + 1 + 1 := by rw [← h5, World.size_alloc, s4]
  have k1 : Ex W W1 := by rw [← h1]; exact (by (try show Ex _ _); with_reducible repeat (first | exact ex_refl _ | assumption | refine ex_drewL ?_ | refine ex_appR ?_ _ | refine ex_wx ?_ _ | refine ex_drew ?_ | refine ex_alloc ?_ _))
  have k2 : Ex W1 W2 := by rw [← h2]; exact (by (try show Ex _ _); with_reducible repeat (first | exact ex_refl _ | assumption | refine ex_drewL ?_ | refine ex_appR ?_ _ | refine ex_wx ?_ _ | refine ex_drew ?_ | refine ex_alloc ?_ _))
  have k3 : Ex W2 W3 := by rw [← h3]; exact (by (try show Ex _ _); with_reducible repeat (first | exact ex_refl _ | assumption | refine ex_drewL ?_ | refine ex_appR ?_ _ | refine ex_wx ?_ _ | refine ex_drew ?_ | refine ex_alloc ?_ _))
  have k4 : Ex W3 W4 := by rw [← h4]; exact (by (try show Ex _ _); with_reducible repeat (first | exact ex_refl _ | assumption | refine ex_drewL ?_ | refine ex_appR ?_ _ | refine ex_wx ?_ _ | refine ex_drew ?_ | refine ex_alloc ?_ _))
  have k5 : Ex W4 W5 := by rw [← h5]; exact (by (try show Ex _ _); with_reducible repeat (first | exact ex_refl _ | assumption | refine ex_drewL ?_ | refine ex_appR ?_ _ | refine ex_wx ?_ _ | refine ex_drew ?_ | refine ex_alloc ?_ _))
  have k6 : Ex W5 (W5.alloc (.cells #[valF (.wr (W.heap.size + 1 + 1) W.heap.size (W.heap.size + 1)), valF (.sy q), valF (.hd (W.heap.size + 1 + 1 + 1) (W.heap.size + 1 + 1 + 1 + 1))] 67)) := ex_alloc (ex_refl _) _
  have b1 : W1.heap[W.heap.size]? = some (.cells #[PT p] 24 (0, 0)) := by rw [← h1]; exact heap_alloc_new _ _
  have b2 : W2.heap[W.heap.size + 1]? = some (.cells #[I a] 3 (0, 0)) := by rw [← h2, ← s1]; exact heap_alloc_new _ _
  have b3 : W3.heap[W.heap.size + 1 + 1]? = some (.cells #[lv] 69 (0, 0)) := by rw [← h3, ← s2]; exact heap_alloc_new _ _
  have b4 : W4.heap[W.heap.size + 1 + 1 + 1]? = some (.cells #[PT p] 24 (0, 0)) := by rw [← h4, ← s3]; exact heap_alloc_new _ _
  have b5 : W5.heap[W.heap.size + 1 + 1 + 1 + 1]? = some (.cells (CR c) 62 (0, 0)) := by rw [← h5, ← s4]; exact heap_alloc_new _ _
  refine ⟨ex_trans k1 (ex_trans k2 (ex_trans k3 (ex_trans k4 (ex_trans k5 k6)))), by rw [World.size_alloc, s5], ex_block (ex_trans k2 (ex_trans k3 (ex_trans k4 (ex_trans k5 k6)))) b1, ex_block (ex_trans k3 (ex_trans k4 (ex_trans k5 k6))) b2, ex_block (ex_trans k4 (ex_trans k5 k6)) b3, ex_block (ex_trans k5 k6) b4, ex_block k6 b5, ?_⟩
  rw [← s5]
  exact heap_alloc_new _ _
/-- What a sheet and its head lead to. -/
def PostPt (p : Nat) (L : Loc) (w : World) (c c0 : Cm) (r : Dk × Int) (sv : Value) (br : Bool) (e : Ending) (w' : World) : Prop :=
  ∃ L', e = .returned (I r.2) ∧ DkAt w' L' r.1 ∧ Wv p L w L' w' ∧ w'.heap[p]? = some (.cells (WR (if r.2 = 0 then c else c0) L.p sv br) 64 (0, 0))
set_option maxHeartbeats 1000000 in
theorem put_all {w0 w W : World} (G : Glob w0) (k0 : Ex w0 w) {L : Loc} {d : Dk} (h : DkAt w L d) (k : Ex w W) (p a : Nat) (c c0 : Cm) (b : By) (sv lv : Value) (br : Bool) (hcB : CmB c)
    (hp : w.heap[p]? = some (.cells (WR c0 L.p sv br) 64 (0, 0))) (n1 : ¬ L.own p) (hlv : SlV1 KK 64 W lv (sheetB b)) (hlo : ∀ g, lv.ownBlock = some g → w.heap.size ≤ g ∧ g < W.heap.size) (hb : b.length ≤ 50000) (ha : a ≤ 1000000)
    (hops : d.ops + 2000 < 1000000000) (hq : d.qu.length + 2000 < 1000000) (ho : ∀ x, L.own x → w0.heap.size ≤ x) :
    Calls Tryd.prog 35 #[.slice (some ⟨W.heap.size + 1 + 1 + 1 + 1 + 1, 0, none⟩) 3 3] (ptW W p a lv c L.p) (PostPt p L (ptW W p a lv c L.p) c c0 (layD HW d a b c) sv br) := by
  have hW := h.ex k
  obtain ⟨hk1, hs1, b0, b1, b2, b3, b4, b5⟩ := pt_blocks W p a lv c L.p
  have hsz : ∀ x, L.own x → x < w.heap.size := fun x hx => h.lt hx
  have hwW := ex_size k
  generalize ptW W p a lv c L.p = W1 at *
  have hD1 := hW.ex hk1
  have hz : ∀ x, w.heap.size ≤ x → ¬ L.own x := fun x hx e => by have := hsz x e; omega
  have hp1 := ex_block (ex_trans k hk1) hp
  have hpz := (Array.getElem?_eq_some_iff.1 hp).1
  have hp9 := (block_cellF (o := 9) (v := PT L.p) hp1 rfl).1
  have hlen := sheetB_len b
  have hsec : secs b.length ≤ 1000 := by unfold secs; omega
  have hwr := writes1_any hD1 (W.heap.size + 1 + 1) W.heap.size (W.heap.size + 1) p lv (sheetB b) a b2 b0 b1 hp9 (hlv.ex hk1) (hz _ (by omega)) (hz _ (by omega)) (hz _ (by omega)) n1 (fun g hg => ⟨hz _ (hlo g hg).1, by have := (hlo g hg).2; omega⟩) (by omega) (by omega) ha
  have hwo := writes_ops (sheetB b) d (a : Int)
  refine (all_any (Q := fun c' w' => c' = (layD HW d a b c).2 ∧ PostPt p L W1 c c0 (layD HW d a b c) sv br (.returned (I (layD HW d a b c).2)) w') [.wr (W.heap.size + 1 + 1) W.heap.size (W.heap.size + 1), .sy L.p, .hd (W.heap.size + 1 + 1 + 1) (W.heap.size + 1 + 1 + 1 + 1)] W1 _ 3 rfl (by omega) b5 ?_).mono fun e w' ⟨c', he, hc', h1⟩ => by rw [he, hc']; exact h1
  unfold layD
  refine hwr.mono ?_
  rintro e w' ⟨L', rfl, hD2, hV2⟩
  have hpp : w'.heap[p]? = some (.cells (WR c0 L.p sv br) 64 (0, 0)) := (hV2.same p (by omega) n1).trans hp1
  refine ⟨_, rfl, hV2.same _ (by omega) (hz _ (by omega)), fun hne => ?_, fun h0 => ?_⟩
  · have e1 : thenD (thenD (writesD d a (sheetB b)) syncD) (fun d => headD HW d c) = writesD d a (sheetB b) := by
      unfold thenD
      rw [if_neg hne, if_neg hne]
    rw [e1]
    exact ⟨rfl, L', rfl, hD2, Wv.ofDv hV2, by rw [if_neg hne]; exact hpp⟩
  · have e1 : thenD (writesD d a (sheetB b)) syncD = syncD (writesD d a (sheetB b)).1 := by unfold thenD; rw [if_pos h0]
    rw [e1]
    have hsy := sync_any hD2 (by omega)
    rw [hV2.pp] at hsy
    refine hsy.mono ?_
    rintro e w2 ⟨L2, rfl, hD3, hV3⟩
    have hV4 := hV2.trans hV3
    have hpp2 : w2.heap[p]? = some (.cells (WR c0 L.p sv br) 64 (0, 0)) := (hV4.same p (by omega) n1).trans hp1
    have hso : (syncD (writesD d a (sheetB b)).1).1.ops ≤ (writesD d a (sheetB b)).1.ops + 1 ∧ (syncD (writesD d a (sheetB b)).1).1.qu.length ≤ (writesD d a (sheetB b)).1.qu.length := by
      rcases sync_cases (writesD d a (sheetB b)).1 with ⟨_, _, g2, g3⟩ | ⟨_, _, g2, g3⟩
      · rw [g2, g3]; omega
      · rw [g2, g3]; simp
    refine ⟨_, rfl, hV3.same _ (Nat.lt_of_lt_of_le (by omega) hV2.size) (hV2.notown (by omega) (hz _ (by omega))), fun hne => ?_, fun h1 => ?_⟩
    · have e2 : thenD (syncD (writesD d a (sheetB b)).1) (fun d => headD HW d c) = syncD (writesD d a (sheetB b)).1 := by
        unfold thenD
        rw [if_neg hne]
      rw [e2]
      exact ⟨rfl, L2, rfl, hD3, Wv.ofDv hV4, by rw [if_neg hne]; exact hpp2⟩
    · have e2 : thenD (syncD (writesD d a (sheetB b)).1) (fun d => headD HW d c) = headD HW (syncD (writesD d a (sheetB b)).1).1 c := by
        unfold thenD
        rw [if_pos h1]
      rw [e2]
      have hp3 := hpp2
      rw [← hV4.pp] at hp3
      have kx : Ex w W1 := ex_trans k hk1
      have k2 : Ex w0 w2 := ex_of_below ((ex_below (ex_trans k0 kx)).trans (hV4.below (ex_size (ex_trans k0 kx)) ho))
      have hx3 := (hV4.same (W.heap.size + 1 + 1 + 1) (by omega) (hz _ (by omega))).trans b3
      have hx4 := (hV4.same (W.heap.size + 1 + 1 + 1 + 1) (by omega) (hz _ (by omega))).trans b4
      have hn : ∀ x, x < W1.heap.size → w.heap.size ≤ x → ¬ L2.own x := fun x h1 h2 => hV4.notown h1 (hz x h2)
      refine (head1_any G k2 hD3 p (W.heap.size + 1 + 1 + 1) (W.heap.size + 1 + 1 + 1 + 1) c c0 sv br hcB hp3 hx3 hx4 (hV4.notown (by omega) n1) (hn _ (by omega) (by omega)) (hn _ (by omega) (by omega)) (by omega) (by omega)).mono ?_
      rintro e w5 ⟨L5, rfl, hD5, hV5, hp5⟩
      rw [hV4.pp] at hp5
      have hVV := (Wv.ofDv (p := p) hV4).trans hV5
      refine ⟨_, rfl, ?_, fun _ => ⟨rfl, L5, rfl, hD5, hVV, hp5⟩, fun e0 => ⟨e0.symm, L5, rfl, hD5, hVV, hp5⟩⟩
      refine hV5.fr.same _ (Nat.lt_of_lt_of_le (by omega) hV4.size) ?_
      rintro (e9 | e9)
      · omega
      · exact hn _ (by omega) (by omega) e9
end Go.Proofs.YtabjamkkhlbajaaDoor

/- Ranges over functions whose values lie in memory: what an iterator knows of a value when it hands it over. Over whatever program. -/
set_option linter.unusedSimpArgs false
set_option linter.unusedVariables false
set_option maxRecDepth 20000
namespace Go.Proofs.YtabjamkkhlbajaaDoor
open Go.RowKit
/-- All cells, and all that lay below a height, lie as they lay. -/
structure Bkp (B : Nat) (W W' : World) : Prop where
  os : W'.os = W.os
  tape : W'.tape = W.tape
  output : W'.output = W.output
  size : W.heap.size ≤ W'.heap.size
  same : ∀ (b : Nat) (o : Obj), W.heap[b]? = some o → (o.isCells = true ∨ b < B) → W'.heap[b]? = some o
theorem Bkp.refl (B : Nat) (W : World) : Bkp B W W := ⟨rfl, rfl, rfl, Nat.le_refl _, fun _ _ h _ => h⟩
theorem Bkp.trans {B : Nat} {X Y Z : World} (h : Bkp B X Y) (k : Bkp B Y Z) : Bkp B X Z :=
  ⟨k.os.trans h.os, k.tape.trans h.tape, k.output.trans h.output, Nat.le_trans h.size k.size, fun b o ho hc => k.same b o (h.same b o ho hc) hc⟩
theorem Bkp.ex {B : Nat} {W W' : World} (k : Ex W W') : Bkp B W W' := by
  have hb := ex_below k
  exact ⟨hb.os, hb.tape, hb.output, hb.size, fun b o ho _ => (hb.block b (Array.getElem?_eq_some_iff.1 ho).1).trans ho⟩
theorem Bkp.put {B : Nat} {W : World} {l : Nat} {o : Obj} (o' : Obj) (hl : W.heap[l]? = some o) (hc : o.isCells = false) (hB : B ≤ l) : Bkp B W (W.putObj l o') := by
  have hg := grownBy_putObj' W l o'
  refine ⟨hg.os, hg.tape, hg.output, hg.size, fun b o2 ho hx => (hg.block b (Array.getElem?_eq_some_iff.1 ho).1 fun e => ?_).trans ho⟩
  obtain rfl : b = l := Option.some.inj e
  rw [hl] at ho
  cases ho
  rcases hx with hx | hx
  · rw [hc] at hx; cases hx
  · omega
/-- How a round's body is left: it goes on. -/
def goesOn {α : Type} (B : Nat) (Kp : World → World → Prop) (I : List α → World → Prop) (xs : List α) (W : World) : Exit → Act → World → Prop
  | .normal, _, W' => KeepsFrom B W W' ∧ Kp W W' ∧ I xs W'
  | _, _, _ => False
/-- An iterator: what it knows of a value (X) when it hands it over; what it knows of all of them behind (S). -/
def Hands {α : Type} (n : Nat) (P : Program) (g : Nat) (lb : Array Value) (encs : α → Array Value) (Kp : World → World → Prop) (X : List α → α → World → Prop) (S : List α → World → Prop) (N B : Nat) (w : World) : Prop :=
  ∀ (l : Nat) (J : List α → World → Prop) (W : World), Bkp B w W → (∀ s A D, J s A → Ex A D → J s D) →
    (∀ pre x W1, J pre W1 → X pre x W1 → pre.length < N → YieldAt Fence.wide (n - 1) P l (encs x) W1 fun e W' => e = .returned (.bool true) ∧ J (pre ++ [x]) W' ∧ Kp W1 W') →
    J [] W → CallsIn Fence.wide n P g (#[.func (.yield l) #[] #[]] ++ lb) W fun e W' => (∃ v, e = .returned v) ∧ ∃ xs, S xs W' ∧ J xs W'
theorem range_gives {α : Type} {P : Program} {n : Nat} {g : Operand} {ps : Array Tmp} {assign body : Code} {Q : Exit → Act → World → Prop} {a : Act} {w : World} (hn : 1 ≤ n) {gf : Nat} {lb : Array Value}
    (hg : a.eval g = .func (.func gf) #[] lb) (eg : ∀ args w, (callFunc gf args).run P w = .ok (.enter gf args) w) {encs : α → Array Value} {Kp : World → World → Prop} {X : List α → α → World → Prop} {S : List α → World → Prop} {N : Nat}
    (hit : Hands (n - 1) P gf lb encs Kp X S N w.heap.size w) (hKt : ∀ A B C, Kp A B → Kp B C → Kp A C) (hKb : ∀ A B, Bkp w.heap.size A B → Kp A B)
    (hX : ∀ pre x A B, Bkp w.heap.size A B → X pre x A → X pre x B) (hS : ∀ xs A B, Bkp w.heap.size A B → S xs A → S xs B) (hps : ∀ x, (encs x).size = ps.size)
    (I : List α → World → Prop) (hI : ∀ xs A B, Bkp w.heap.size A B → I xs A → I xs B) (h0 : I [] w) (a₁ : α → Act)
    (hassign : ∀ (l : Nat) (x : α) (W : World) (K : Act → World → Prop), K (a₁ x) W →
      assign.wpIn (Fence.wide.inRound l) (n - 1 - 1) P (Exit.then K (fun _ _ _ => False)) { tmps := (ps.zip (encs x)).foldl (fun t (p, v) => t.setIfInBounds p v) a.tmps, defers := [] } W)
    (hbody : ∀ (l : Nat) (pre : List α) (x : α) (W : World), I pre W → X pre x W → pre.length < N → body.wpIn (Fence.wide.inRound l) (n - 1 - 1) P (goesOn w.heap.size Kp I (pre ++ [x]) W) (a₁ x) W)
    (hdone : ∀ (D : Nat) (xs : List α) (W : World), w.heap.size ≤ D → S xs W → I xs W → W.heap[D]? = some (.deferred (some [])) → Q .normal { a with defers := { target := .collected D, args := #[] } :: a.defers } W) :
    (Code.rangeFunc g ps assign body).wpIn Fence.wide n P Q a w := by
  refine wpIn_rangeFunc fun fn hfn => ?_
  obtain ⟨rec, hrec⟩ : ∃ rec : LoopState → Loop, rec = fun st => { state := st, pending := none, fn, tmps := a.tmps, params := ps, assign, body, defers := w.heap.size } := ⟨_, rfl⟩
  obtain ⟨L, hL⟩ : ∃ L, L = w.heap.size + 1 := ⟨_, rfl⟩
  obtain ⟨W1, hW1⟩ : ∃ W1, (w.alloc (.deferred (some []))).alloc (.loop (rec .ready)) = W1 := ⟨_, rfl⟩
  have k1 : Ex w W1 := by rw [← hW1]; exact ex_alloc (ex_alloc (ex_refl _) _) _
  have r1 : W1.heap[L]? = some (.loop (rec .ready)) := by
    have := heap_alloc_new (w.alloc (.deferred (some []))) (.loop (rec .ready))
    rw [World.size_alloc] at this
    rw [← hW1, hL]; exact this
  have d1 : W1.heap[w.heap.size]? = some (.deferred (some [])) := by
    rw [← hW1]; exact ex_block (ex_alloc (ex_refl _) _) (heap_alloc_new w _)
  refine ⟨L, [{ target := .collected w.heap.size, args := #[] }], W1, { target := .fn (.func gf) lb, args := #[.func (.yield L) #[] #[]] }, W1, gf, #[.func (.yield L) #[] #[]] ++ lb, W1, ?_, ?_, fun _ _ => trivial, ?_, fun _ => hn, ?_⟩
  · rw [hL, ← hW1, hrec]; exact run_enterLoop_outer _ _ _ _ _
  · simp only [resolve, hg]
    simp [go_sem]
  · simp [invoke, go_sem, eg]
  refine (hit L (fun xs W => I xs W ∧ W.heap[L]? = some (.loop (rec .ready)) ∧ W.heap[w.heap.size]? = some (.deferred (some []))) W1 (Bkp.ex k1) (fun xs A D h k => ⟨hI _ _ _ (Bkp.ex k) h.1, ex_block k h.2.1, ex_block k h.2.2⟩) ?_ ⟨hI _ _ _ (Bkp.ex k1) h0, r1, d1⟩).mono ?_
  · rintro pre x W ⟨hi, hl, hd⟩ hx hlen
    have hz := (Array.getElem?_eq_some_iff.1 hl).1
    have hy := run_yield (P := P) (args := encs x) hl (by rw [hrec]; exact hps x)
    rw [hrec] at hy
    refine ⟨fn, _, assign, body, hy, roundIn_of_wpIn hfn (hassign L x W _ ?_)⟩
    obtain ⟨V, hV⟩ : ∃ V, W.putObj L (.loop { rec .ready with state := .busy }) = V := ⟨_, rfl⟩
    have kV : Bkp w.heap.size W V := by rw [← hV]; exact Bkp.put _ hl rfl (by omega)
    have lV : V.heap[L]? = some (.loop { rec .ready with state := .busy }) := by rw [← hV]; exact World.putObj_heap_same hz
    have dV : V.heap[w.heap.size]? = some (.deferred (some [])) := by rw [← hV]; exact (World.putObj_heap_other (by omega)).trans hd
    refine ⟨V, by rw [← hV]; exact run_beginRound hl (by rw [hrec]), ?_⟩
    refine wpIn_mono (hbody L pre x V (hI _ _ _ kV hi) (hX _ _ _ _ kV hx) hlen) fun e a3 W3 hp => ?_
    cases e with
    | normal =>
      obtain ⟨q1, q2, q3⟩ := hp
      have l3 := q1.same L _ (by omega) lV rfl
      have d3 := q1.same w.heap.size _ (Nat.le_refl _) dV rfl
      have hr := run_endRound (P := P) none l3
      obtain ⟨U, hU⟩ : ∃ U, W3.putObj L (.loop (rec .ready)) = U := ⟨_, rfl⟩
      have kU : Bkp w.heap.size W3 U := by rw [← hU]; exact Bkp.put _ l3 rfl (by omega)
      refine ⟨_, U, ?_, rfl, ⟨hI _ _ _ kU q3, ?_, ?_⟩, hKt _ _ _ (hKb _ _ kV) (hKt _ _ _ q2 (hKb _ _ kU))⟩
      · rw [hr, ← hU, hrec]; rfl
      · rw [← hU]; exact World.putObj_heap_same (Array.getElem?_eq_some_iff.1 l3).1
      · rw [← hU]; exact (World.putObj_heap_other (by omega)).trans d3
    | ret => exact hp.elim
    | exit id => exact hp.elim
    | goto t => exact hp.elim
    | panic ch => exact hp.elim
    | outgrown => exact hp.elim
  · rintro e W2 ⟨⟨v, rfl⟩, xs, hs, hi, hl, hd⟩
    have he := run_endLoop (P := P) hl (by rw [hrec]; simp)
    obtain ⟨U, hU⟩ : ∃ U, W2.putObj L (.loop { rec .ready with state := .exhausted }) = U := ⟨_, rfl⟩
    rw [hU] at he
    have kU : Bkp w.heap.size W2 U := by rw [← hU]; exact Bkp.put _ hl rfl (by omega)
    refine ⟨(rec .ready).pending, U, he, ?_⟩
    have hpn : (rec .ready).pending = none := by rw [hrec]
    rw [hpn]
    exact hdone _ xs U (Nat.le_refl _) (hS _ _ _ kU hs) (hI _ _ _ kU hi) (by rw [← hU]; exact (World.putObj_heap_other (by omega)).trans hd)
end Go.Proofs.YtabjamkkhlbajaaDoor
