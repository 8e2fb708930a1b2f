import Derived.Test.YtcdocklbpfdmeaaDoorMCoC
import Derived.Test.YtcdocklbpfdmeaaDoorMChk
import Derived.Recover

/- Collide: the document's roots and tops; Root and Crown of both texts. -/
set_option linter.unusedSimpArgs false
set_option linter.unusedVariables false
set_option linter.unnecessarySimpa false
set_option maxRecDepth 20000
namespace Go.Proofs.YtcdocklbpfdmeaaDoor
open Go.RowKit
set_option maxHeartbeats 1000000 in
theorem reftopN_any (W : Nat) (hW : W ≤ 256) (N : Nat) : ∀ (l : List Pr) (a : Option Addr) (c : Nat) (w : World), l.length = N → N ≤ 1024 → N ≤ c → c ≤ maxLen → SlP w a l → FitL l →
    Calls Tryd.prog 83 #[I W, .slice a N c] w (Post w (.agg (rowB 32 (dF (topC (sumW W) zeroD leafL l))))) := by
  induction N using Nat.strongRecOn with
  | ind N ih =>
    intro l a c w hl hN hc hcm hs hf
    unfold maxLen at hcm
    rcases Nat.lt_or_ge N 2 with h2 | h2
    · have h01 : N = 0 ∨ N = 1 := by omega
      rcases h01 with rfl | rfl
      · obtain rfl := List.eq_nil_of_length_eq_zero hl
        have hr : topC (sumW W) zeroD leafL [] = zeroD := overC_nil _
        rw [hr]
        clear ih hs hf hr
        rw [row_zeroC]
        go_enter Tryd.func83, Tryd.ntmps83
        go_wp2
        exact ret_row (cs := rowB 32 (fun _ => 0)) Tryd.results83 Tryd.underlying46 rfl info_id rfl (by simp [go_sem]) rfl (post_mk rfl (by (try show Ex _ _); with_reducible repeat (first | exact ex_refl _ | assumption | refine ex_drewL ?_ | refine ex_appR ?_ _ | refine ex_wx ?_ _ | refine ex_drew ?_ | refine ex_alloc ?_ _)))
      · obtain ⟨x, rfl⟩ := List.length_eq_one_iff.1 hl
        rw [topC_one]
        obtain ⟨g, off, rfl, hg, hcell⟩ := hs.pos (by simp)
        have h1 := hcell 0 x rfl
        have hx := hf x (by simp)
        clear hcell ih hs hf
        rw [Nat.zero_mul, Nat.add_zero] at h1
        have hx2 : FitP x := hx
        have HL := Lib.hid (fun w' => refcellB_any x hx2 w')
        have HM : Hid (∀ w' v, Ex w w' → SlT w' v (leafL x) → Calls Tryd.prog 26 #[I W, v] w' (Post w' (.agg (rowB 32 (dF (sumW W (leafL x))))))) := Lib.hid fun w' v k h => digest_any W hW h (by have := leafL_short (p := x); omega)
        generalize sumW W (leafL x) = r at HM ⊢
        clear hx hx2
        go_enter Tryd.func83, Tryd.ntmps83
        go_wp2_with (first | (go_at_call 121; (with_reducible refine (HL.out _).mono ?_); rintro e w2 ⟨v2, rfl, hv2, X, rfl⟩; (try simp only [wx_wx, wx_drew] at hv2)) | (go_at_call 26; (with_reducible refine (HM.out _ _ (by (try show Ex _ _); with_reducible repeat (first | exact ex_refl _ | assumption | refine ex_drewL ?_ | refine ex_appR ?_ _ | refine ex_wx ?_ _ | refine ex_drew ?_ | refine ex_alloc ?_ _)) (hv2.slt.ex (by (try show Ex _ _); with_reducible repeat (first | exact ex_refl _ | assumption | refine ex_drewL ?_ | refine ex_appR ?_ _ | refine ex_wx ?_ _ | refine ex_drew ?_ | refine ex_alloc ?_ _)))).mono ?_); rintro e w2 ⟨rfl, X, rfl⟩))
        exact ret_row (cs := rowB 32 (dF r)) Tryd.results83 Tryd.underlying46 rfl info_id rfl (by simp [go_sem]) rfl (post_mk rfl (by (try show Ex _ _); with_reducible repeat (first | exact ex_refl _ | assumption | refine ex_drewL ?_ | refine ex_appR ?_ _ | refine ex_wx ?_ _ | refine ex_drew ?_ | refine ex_alloc ?_ _)))
    · have hk1 := split_lt (n := N) h2
      have hk2 := split_pos N
      have hr := topC_two (S := sumW W) (z := zeroD) (cell := leafL) (l := l) (by omega)
      rw [hl] at hr
      rw [hr]
      clear hr
      obtain ⟨g, off, rfl, hg, hcell⟩ := hs.pos (by omega)
      clear hcell
      have HT : Hid (∀ w', Ex w w' → Calls Tryd.prog 83 #[I W, .slice (some ⟨g, off, none⟩) (splitN N) c] w' (Post w' (.agg (rowB 32 (dF (topC (sumW W) zeroD leafL (l.take (splitN N)))))))) :=
        Lib.hid fun w' k => ih _ hk1 _ _ c w' (by rw [List.length_take]; omega) (by omega) (by omega) (by unfold maxLen; omega) ((hs.take _).ex k) (fun p hp => hf p (List.mem_of_mem_take hp))
      have HD : Hid (∀ w', Ex w w' → Calls Tryd.prog 83 #[I W, .slice (some ⟨g, off + splitN N* 2, none⟩) (N - splitN N) (c - splitN N)] w' (Post w' (.agg (rowB 32 (dF (topC (sumW W) zeroD leafL (l.drop (splitN N)))))))) :=
        Lib.hid fun w' k => ih _ (by omega) _ _ _ w' (by rw [List.length_drop]; omega) (by omega) (by omega) (by unfold maxLen; omega) ((hs.drop _).ex k) (fun p hp => hf p (List.mem_of_mem_drop hp))
      have HS := Lib.hid (fun w => refsplit_at N w h2 (by omega))
      generalize topC (sumW W) zeroD leafL (l.take (splitN N)) = x at HT ⊢
      generalize topC (sumW W) zeroD leafL (l.drop (splitN N)) = y at HD ⊢
      have H2 := Lib.hid (fun w => reftwo_any x y w)
      have HM : Hid (∀ w' v, Ex w w' → SlT w' v (twoL x y) → Calls Tryd.prog 26 #[I W, v] w' (Post w' (.agg (rowB 32 (dF (sumW W (twoL x y))))))) := Lib.hid fun w' v k h => digest_any W hW h (by rw [twoL_len]; omega)
      generalize sumW W (twoL x y) = r at HM ⊢
      generalize splitN N = k at hk1 hk2 HT HD HS
      have e0 : ((N : Int) == 0) = false := beq_eq_false_iff_ne.2 (by omega)
      have e1 : ((N : Int) == 1) = false := beq_eq_false_iff_ne.2 (by omega)
      have e2 : (k : Int) ≤ N := by omega
      have e3 : (k : Int) ≤ c := by omega
      have e4 : ¬ c = k := by omega
      have e5 : (N : Int) ≤ c := by omega
      clear ih hs hl h2 hN hf
      go_enter Tryd.func83, Tryd.ntmps83
      go_wp2_with (go_at_call 80; (with_reducible refine (HS.out _).mono ?_); rintro e w' ⟨rfl, rfl⟩)
      refine wp_region_mix [(0, true), (1, true), (2, true), (3, true), (4, true), (6, true), (7, true), (8, true), (9, true), (5, false), (10, false), (11, false), (12, false)] 13 (by kernel_rfl) (by kernel_rfl) (fun _ _ d _ _ h => by cases d <;> exact h) ?_
      simp only [List.map_cons, List.map_nil, nth, List.drop_succ_cons, List.drop_zero]
      repeat (first | (refine wpMix_look ?_; go_big_quiet_step (fail); refine wpQuiet_nil ?_) | (refine wpMix_eff rfl (fun X1 => ?_); go_wp2_with (first | (go_at_call 83; (with_reducible refine (HT.out _ (by (try show Ex _ _); with_reducible repeat (first | exact ex_refl _ | assumption | refine ex_drewL ?_ | refine ex_appR ?_ _ | refine ex_wx ?_ _ | refine ex_drew ?_ | refine ex_alloc ?_ _))).mono ?_); rintro e w2 ⟨rfl, X, rfl⟩) | (go_at_call 83; (with_reducible refine (HD.out _ (by (try show Ex _ _); with_reducible repeat (first | exact ex_refl _ | assumption | refine ex_drewL ?_ | refine ex_appR ?_ _ | refine ex_wx ?_ _ | refine ex_drew ?_ | refine ex_alloc ?_ _))).mono ?_); rintro e w2 ⟨rfl, X, rfl⟩) | (go_at_call 81; (with_reducible refine (H2.out _).mono ?_); rintro e w2 ⟨v2, rfl, hv2, X, rfl⟩; (try simp only [wx_wx, wx_drew] at hv2)) | (go_at_call 26; (with_reducible refine (HM.out _ _ (by (try show Ex _ _); with_reducible repeat (first | exact ex_refl _ | assumption | refine ex_drewL ?_ | refine ex_appR ?_ _ | refine ex_wx ?_ _ | refine ex_drew ?_ | refine ex_alloc ?_ _)) (hv2.slt.ex (by (try show Ex _ _); with_reducible repeat (first | exact ex_refl _ | assumption | refine ex_drewL ?_ | refine ex_appR ?_ _ | refine ex_wx ?_ _ | refine ex_drew ?_ | refine ex_alloc ?_ _)))).mono ?_); rintro e w2 ⟨rfl, X, rfl⟩)); refine mixQ_mk (by first | exact ex_refl _ | exact ⟨_, rfl⟩ | exact ex_app _ _ _ | (simp only [wx_wx, wx_drew]; first | exact ex_refl _ | exact ex_app _ _ _ | exact ⟨_, rfl⟩) | (repeat (first | exact ex_refl _ | refine ex_drew ?_ | refine ex_alloc ?_ _ | refine ex_wx ?_ _))) ?_))
      refine wpMix_nil (fun X2 => ?_)
      go_wp2
      exact ret_row (cs := rowB 32 (dF r)) Tryd.results83 Tryd.underlying46 rfl info_id rfl (by simp [go_sem]) rfl (post_mk rfl (by (try show Ex _ _); with_reducible repeat (first | exact ex_refl _ | assumption | refine ex_drewL ?_ | refine ex_appR ?_ _ | refine ex_wx ?_ _ | refine ex_drew ?_ | refine ex_alloc ?_ _)))
end Go.Proofs.YtcdocklbpfdmeaaDoor

/- Collide: the walker in memory; what a call keeps that may turn the walker's block. -/
set_option linter.unusedSimpArgs false
set_option linter.unusedVariables false
set_option linter.unnecessarySimpa false
set_option maxRecDepth 20000
namespace Go.Proofs.YtcdocklbpfdmeaaDoor
open Go.RowKit
theorem setCellF_heap {w : World} {b o : Nat} (v : Value) {k : Nat} (h : k ≠ b) : (w.setCell ⟨b, o, none⟩ v).heap[k]? = w.heap[k]? := by
  simp only [World.setCell, Array.getElem?_modify]
  rw [if_neg (by simpa using Ne.symm h)]
theorem setCellF_block {w : World} {b o : Nat} {cs : Array Value} {t : TypeId} {fr : Nat × Nat} (v : Value) (h : w.heap[b]? = some (.cells cs t fr)) : (w.setCell ⟨b, o, none⟩ v).heap[b]? = some (.cells (cs.setIfInBounds o v) t fr) := by
  simp [World.setCell, Array.getElem?_modify, h]
/-- All but the blocks of a set lies as it lay. -/
structure Frm (F : Nat → Prop) (w w' : World) : Prop where
  os : w'.os = w.os
  tape : w'.tape = w.tape
  output : w'.output = w.output
  size : w.heap.size ≤ w'.heap.size
  same : ∀ b, b < w.heap.size → ¬ F b → w'.heap[b]? = w.heap[b]?
theorem Frm.refl (F : Nat → Prop) (w : World) : Frm F w w := ⟨rfl, rfl, rfl, Nat.le_refl _, fun _ _ _ => rfl⟩
theorem Frm.trans {F : Nat → Prop} {a b c : World} (h : Frm F a b) (k : Frm F b c) : Frm F a c :=
  ⟨k.os.trans h.os, k.tape.trans h.tape, k.output.trans h.output, Nat.le_trans h.size k.size, fun i hi hf => (k.same i (Nat.lt_of_lt_of_le hi h.size) hf).trans (h.same i hi hf)⟩
theorem Frm.ex {F : Nat → Prop} {w w' : World} (k : Ex w w') : Frm F w w' := by
  have hb := ex_below k
  exact ⟨hb.os, hb.tape, hb.output, hb.size, fun b h1 _ => hb.block b h1⟩
theorem Frm.mono {F G : Nat → Prop} {w w' : World} (h : Frm F w w') (k : ∀ b, F b → G b) : Frm G w w' := ⟨h.os, h.tape, h.output, h.size, fun b hb hf => h.same b hb fun e => hf (k b e)⟩
theorem Frm.set {F : Nat → Prop} {w w' : World} (h : Frm F w w') {b : Nat} (hb : F b) (o : Nat) (v : Value) : Frm F w (w'.setCell ⟨b, o, none⟩ v) :=
  h.trans ⟨rfl, rfl, rfl, by simp [World.setCell], fun k _ hk => setCellF_heap v (fun e => hk (by rw [e]; exact hb))⟩
theorem setCells_os (b : Nat) : ∀ (vs : List Value) (o : Nat) (w : World), (w.setCells b o vs).os = w.os ∧ (w.setCells b o vs).tape = w.tape ∧ (w.setCells b o vs).output = w.output
  | [], _, _ => ⟨rfl, rfl, rfl⟩
  | v :: r, o, w => by unfold World.setCells; exact setCells_os b r _ _
theorem Frm.sets {F : Nat → Prop} {w w' : World} (h : Frm F w w') {b : Nat} (hb : F b) (o : Nat) (vs : List Value) : Frm F w (w'.setCells b o vs) := by
  obtain ⟨h1, h2, h3⟩ := setCells_os b vs o w'
  exact h.trans ⟨h1, h2, h3, by rw [setCells_size]; exact Nat.le_refl _, fun k _ hk => setCells_heap _ _ _ _ _ (fun e => hk (by rw [e]; exact hb))⟩
theorem Frm.alloc {F : Nat → Prop} {w w' : World} (h : Frm F w w') (o : Obj) : Frm F w (w'.alloc o) := h.trans (Frm.ex (ex_alloc (ex_refl _) _))
theorem Frm.below {F : Nat → Prop} {w w' : World} (h : Frm F w w') {Z : Nat} (hZ : Z ≤ w.heap.size) (ho : ∀ b, F b → Z ≤ b) : Below Z w w' :=
  ⟨h.os, h.tape, h.output, h.size, fun b hb => h.same b (by omega) fun e => by have := ho b e; omega⟩
/-- All but one block is kept. -/
abbrev FrP (p : Nat) (w w' : World) : Prop := Frm (fun b => b = p) w w'
theorem Frm.cell {F : Nat → Prop} {w w' : World} (h : Frm F w w') {a : Addr} (hb : a.block < w.heap.size) (hf : ¬ F a.block) : w'.cell? a = w.cell? a := by
  simp only [World.cell?, h.same a.block hb hf]
theorem cell_lt {w : World} {a : Addr} {v : Value} (h : w.cell? a = some v) : a.block < w.heap.size := by
  unfold World.cell? at h
  by_cases hb : a.block < w.heap.size
  · exact hb
  · rw [Array.getElem?_eq_none (by omega)] at h; cases h
/-- No byte stands in the block. -/
structure NoB (w : World) (p : Nat) : Prop where
  out : ∀ o b, w.cell? ⟨p, o, none⟩ ≠ some (B b)
theorem SlB.frm {w w' : World} {a : Option Addr} {n : Nat} {f : Nat → UInt8} {p : Nat} (h : SlB w a n f) (hn : NoB w p) (k : FrP p w w') : SlB w' a n f := by
  rcases h.out with h0 | ⟨g, off, h1, hg, hc⟩
  · exact ⟨Or.inl h0⟩
  · refine ⟨Or.inr ⟨g, off, h1, Nat.lt_of_lt_of_le hg k.size, fun j hj => ?_⟩⟩
    rw [k.cell hg (fun e => ?_)]
    · exact hc j hj
    · have e : g = p := e
      subst e
      exact hn.out _ _ (hc j hj)
theorem SlL.frm {w w' : World} {a : Option Addr} {l : List UInt8} {p : Nat} (h : SlL w a l) (hn : NoB w p) (k : FrP p w w') : SlL w' a l := SlB.frm h hn k
theorem SlT.frm {w w' : World} {v : Value} {l : List UInt8} {p : Nat} (h : SlT w v l) (hn : NoB w p) (k : FrP p w w') : SlT w' v l := by
  obtain ⟨a, c, h1, h2, h3, h4, h5⟩ := h.out
  exact ⟨a, c, h1, h2, h3, h4, h5.frm hn k⟩
/-- No block of bytes among them. -/
structure NoU (w : World) (F : Nat → Prop) : Prop where
  out : ∀ b cs fr, F b → w.heap[b]? ≠ some (.cells cs 5 fr)
theorem OwnU.frm {w w' : World} {v : Value} {l : List UInt8} {F : Nat → Prop} (h : OwnU w v l) (hF : NoU w F) (k : Frm F w w') : OwnU w' v l := by
  refine ⟨h.1, ?_⟩
  rcases h.2 with h2 | ⟨g, cap, cur, h1, h2, h3, h4⟩
  · exact Or.inl h2
  · exact Or.inr ⟨g, cap, cur, h1, h2, (k.same g (Array.getElem?_eq_some_iff.1 h3).1 fun e => hF.out g _ _ e h3).trans h3, h4⟩
theorem nou_type {w : World} {p : Nat} {cs : Array Value} {t : TypeId} {fr : Nat × Nat} (h : w.heap[p]? = some (.cells cs t fr)) (ht : t ≠ 5) : NoU w (fun b => b = p) := ⟨fun b cs' fr' hb h' => by
  subst hb
  rw [h] at h'
  cases h'
  exact ht rfl⟩
def ClP (w : World) (p : Nat) (pv : Option Addr) : Cl → Prop
  | none => pv = none
  | some x => ∃ q sa sb, pv = some ⟨q, 0, none⟩ ∧ q ≠ p ∧ w.heap[q]? = some (.cells #[sa, sb] 37 (0, 0)) ∧ OwnU w sa x.1 ∧ OwnU w sb x.2
/-- The walker's block. -/
structure Wk (w : World) (p W : Nat) (c : Cl) : Prop where
  out : ∃ pv, w.heap[p]? = some (.cells #[I W, .pointer pv] 146 (0, 0)) ∧ ClP w p pv c
theorem Wk.lt {w : World} {p W : Nat} {c : Cl} (h : Wk w p W c) : p < w.heap.size := by
  obtain ⟨pv, h1, _⟩ := h.out
  exact (Array.getElem?_eq_some_iff.1 h1).1
theorem Wk.nou {w : World} {p W : Nat} {c : Cl} (h : Wk w p W c) : NoU w (fun b => b = p) := by
  obtain ⟨pv, h1, _⟩ := h.out
  exact nou_type h1 (by decide)
theorem Wk.width {w : World} {p W : Nat} {c : Cl} (h : Wk w p W c) : w.cell? ⟨p, 0, none⟩ = some (I W) := by
  obtain ⟨pv, h1, _⟩ := h.out
  rw [cell_of_row w p 0 _ _ _ h1]; rfl
theorem Wk.ex {w w' : World} {p W : Nat} {c : Cl} (h : Wk w p W c) (k : Ex w w') : Wk w' p W c := by
  obtain ⟨pv, h1, h2⟩ := h.out
  refine ⟨pv, ex_block k h1, ?_⟩
  cases c with
  | none => exact h2
  | some x =>
    obtain ⟨q, sa, sb, e1, e2, e3, e4, e5⟩ := h2
    exact ⟨q, sa, sb, e1, e2, ex_block k e3, e4.ex k, e5.ex k⟩
theorem Wk.new {w : World} (W : Nat) : Wk (w.alloc (.cells #[I W, .pointer none] 146)) w.heap.size W none := ⟨none, heap_alloc_new _ _, rfl⟩
theorem Wk.new' {w : World} {p : Nat} (W : Nat) (hp : p = w.heap.size) : Wk (w.alloc (.cells #[I W, .pointer none] 146)) p W none := by subst hp; exact Wk.new W
theorem Wk.none_cell {w : World} {p W : Nat} (h : Wk w p W none) : w.heap[p]? = some (.cells #[I W, .pointer none] 146 (0, 0)) := by
  obtain ⟨pv, h1, h2⟩ := h.out
  cases h2; exact h1
theorem Wk.some_cell {w : World} {p W : Nat} {x : List UInt8 × List UInt8} (h : Wk w p W (some x)) : ∃ q, w.heap[p]? = some (.cells #[I W, .pointer (some ⟨q, 0, none⟩)] 146 (0, 0)) := by
  obtain ⟨pv, h1, q, sa, sb, rfl, _⟩ := h.out
  exact ⟨q, h1⟩
/-- The clash is noted. -/
theorem Wk.note {w : World} {p W : Nat} (h : Wk w p W none) {q : Nat} {w' : World} {sa sb : Value} {A D : List UInt8} (k : Ex (w.setCell ⟨p, 1, none⟩ (.pointer (some ⟨q, 0, none⟩))) w') (hq : w.heap.size ≤ q)
    (hb : w'.heap[q]? = some (.cells #[sa, sb] 37 (0, 0))) (h1 : OwnU w sa A) (h2 : OwnU w sb D) : FrP p w w' ∧ Wk w' p W (some (A, D)) := by
  have hlt := h.lt
  have f1 : FrP p w (w.setCell ⟨p, 1, none⟩ (.pointer (some ⟨q, 0, none⟩))) := (Frm.refl (fun b => b = p) w).set (b := p) rfl 1 _
  have f2 : FrP p w w' := f1.trans (Frm.ex k)
  refine ⟨f2, some ⟨q, 0, none⟩, ?_, q, sa, sb, rfl, by omega, hb, h1.frm h.nou f2, h2.frm h.nou f2⟩
  refine ex_block k ?_
  rw [setCellF_block _ h.none_cell]
  rfl
theorem Wk.noteP {w P : World} {p W : Nat} (h : Wk w p W none) {q : Nat} {sa sb : Value} {A D : List UInt8} (k : Ex (w.setCell ⟨p, 1, none⟩ (.pointer (some ⟨q, 0, none⟩))) P) (hq : q = P.heap.size)
    (h1 : OwnU w sa A) (h2 : OwnU w sb D) : FrP p w (P.alloc (.cells #[sa, sb] 37)) ∧ Wk (P.alloc (.cells #[sa, sb] 37)) p W (some (A, D)) := by
  have hs := ex_size k
  have e : (w.setCell ⟨p, 1, none⟩ (.pointer (some ⟨q, 0, none⟩))).heap.size = w.heap.size := by simp [World.setCell]
  refine h.note (ex_alloc k _) (by omega) ?_ h1 h2
  subst hq
  exact heap_alloc_new _ _
theorem block_cellF {w : World} {b o : Nat} {cs : Array Value} {t : TypeId} {v : Value} (h : w.heap[b]? = some (.cells cs t (0, 0))) (hv : cs[o]? = some v) : w.cell? ⟨b, o, none⟩ = some v ∧ w.frozen? ⟨b, o, none⟩ = false :=
  ⟨by rw [cell_of_row w b o _ _ _ h]; exact hv, by simp [World.frozen?, h]⟩
/-- What a call of the walker leaves behind. -/
def PostK (p W : Nat) (w : World) (v : Value) (c : Cl) (e : Ending) (w' : World) : Prop := e = .returned v ∧ FrP p w w' ∧ Wk w' p W c
theorem postk_ex {p W : Nat} {w w' : World} {v : Value} {c : Cl} {e : Ending} (he : e = .returned v) (h : Wk w p W c) (k : Ex w w') : PostK p W w v c e w' := ⟨he, Frm.ex k, h.ex k⟩
/-! ### Classes of worlds -/
theorem wp_worldC {P : Program} {c : Code} {Q : Exit → Act → World → Prop} {a : Act} {w : World} (h : ∀ w8, w = w8 → c.wp P Q a w8) : c.wp P Q a w := h w rfl

/-- X where it holds what A holds, but for the blocks of a set; else A. -/
noncomputable def kp (A : World) (P : Nat → Prop) (X : World) : World := open Classical in if ∀ k, k < A.heap.size → ¬ P k → X.heap[k]? = A.heap[k]? then X else A
theorem kp_heap (A : World) (P : Nat → Prop) (X : World) {k : Nat} (h : k < A.heap.size) (h2 : ¬ P k) : (kp A P X).heap[k]? = A.heap[k]? := by
  unfold kp; split
  · rename_i h3; exact h3 k h h2
  · rfl
theorem kp_of {A X : World} {P : Nat → Prop} (h : ∀ k, k < A.heap.size → ¬ P k → X.heap[k]? = A.heap[k]?) : X = kp A P X := by
  unfold kp; rw [if_pos h]
noncomputable def kpFar (A : World) (P : Nat → Prop) (X : World) (a : Addr) : Option Value := (kp A P X).cell? a
noncomputable def kpFarN (A : World) (P : Nat → Prop) (X : World) (b i n : Nat) : Option (Array Value) := cellsN (kp A P X) b i n
open Classical in
@[go_sem high] theorem kp_cell (A : World) (P : Nat → Prop) (X : World) (b i : Nat) : (kp A P X).cell? ⟨b, i, none⟩ = if b < A.heap.size ∧ ¬ P b then A.cell? ⟨b, i, none⟩ else kpFar A P X ⟨b, i, none⟩ := by
  split
  · rename_i h; simp only [World.cell?, kp_heap A P X h.1 h.2]
  · rfl
open Classical in
@[go_sem high] theorem kp_cellsN (A : World) (P : Nat → Prop) (X : World) (b i n : Nat) : cellsN (kp A P X) b i n = if b < A.heap.size ∧ ¬ P b then cellsN A b i n else kpFarN A P X b i n := by
  split
  · rename_i h; exact cellsN_congr fun j _ => by simp only [World.cell?, kp_heap A P X h.1 h.2]
  · rfl
theorem kpF {A : World} {P : Nat → Prop} {X : World} (h : Frm P A X) : X = kp A P X := kp_of h.same
theorem Frm.wxR {F : Nat → Prop} {w w' : World} (h : Frm F w w') (X : More) : Frm F w (wx w' X) := h.trans (Frm.ex (ex_wx (ex_refl _) _))
theorem Frm.drewR {F : Nat → Prop} {w w' : World} (h : Frm F w w') : Frm F w w'.drew := h.trans (Frm.ex (ex_drew (ex_refl _)))
/-- What lies below the walker's block is there still. -/
theorem Frm.exA {A w w' : World} {p : Nat} (h : FrP p w w') (k : Ex A w) (hp : A.heap.size ≤ p) : Ex A w' := by
  have hb := ex_below k
  refine ex_of_below ⟨h.os.trans hb.os, h.tape.trans hb.tape, h.output.trans hb.output, Nat.le_trans hb.size h.size, fun b hlt => ?_⟩
  exact (h.same b (Nat.lt_of_lt_of_le hlt hb.size) (by omega)).trans (hb.block b hlt)
/-- No block of a kind that the walker holds. -/
structure NoK (w : World) (F : Nat → Prop) : Prop where
  out : ∀ b cs t fr, F b → w.heap[b]? = some (.cells cs t fr) → t ≠ 5 ∧ t ≠ 146 ∧ t ≠ 37
theorem Wk.frm {w w' : World} {p W : Nat} {c : Cl} {F : Nat → Prop} (h : Wk w p W c) (hF : NoK w F) (k : Frm F w w') : Wk w' p W c := by
  obtain ⟨pv, h1, h2⟩ := h.out
  have hu : NoU w F := ⟨fun b cs fr hb h' => (hF.out b cs _ fr hb h').1 rfl⟩
  refine ⟨pv, (k.same p (Array.getElem?_eq_some_iff.1 h1).1 fun e => (hF.out p _ _ _ e h1).2.1 rfl).trans h1, ?_⟩
  cases c with
  | none => exact h2
  | some x =>
    obtain ⟨q, sa, sb, e1, e2, e3, e4, e5⟩ := h2
    exact ⟨q, sa, sb, e1, e2, (k.same q (Array.getElem?_eq_some_iff.1 e3).1 fun e => (hF.out q _ _ _ e e3).2.2 rfl).trans e3, e4.frm hu k, e5.frm hu k⟩
theorem ClP.frm {w w' : World} {p : Nat} {pv : Option Addr} {c : Cl} {F : Nat → Prop} (h2 : ClP w p pv c) (hF : NoK w F) (k : Frm F w w') : ClP w' p pv c := by
  have hu : NoU w F := ⟨fun b cs fr hb h' => (hF.out b cs _ fr hb h').1 rfl⟩
  cases c with
  | none => exact h2
  | some x =>
    obtain ⟨q, sa, sb, e1, e2, e3, e4, e5⟩ := h2
    exact ⟨q, sa, sb, e1, e2, (k.same q (Array.getElem?_eq_some_iff.1 e3).1 fun e => (hF.out q _ _ _ e e3).2.2 rfl).trans e3, e4.frm hu k, e5.frm hu k⟩
theorem nok_type {w : World} {r : Nat} {cs : Array Value} {t : TypeId} {fr : Nat × Nat} (h : w.heap[r]? = some (.cells cs t fr)) (h1 : t ≠ 5) (h2 : t ≠ 146) (h3 : t ≠ 37) : NoK w (fun b => b = r) := ⟨fun b cs' t fr' hb h' => by
  subst hb
  rw [h] at h'
  cases h'
  exact ⟨h1, h2, h3⟩⟩
/-- A block of the call's own is turned in the midst. -/
theorem frm_turn (w : World) (o o' : Obj) (X : More) : Frm (fun b => b = w.heap.size) (wx (w.alloc o) X) (wx (w.alloc o') X) := by
  refine ⟨rfl, rfl, rfl, by simp [wx, World.size_alloc], fun b hb hn => ?_⟩
  have hs1 : (w.alloc o).heap.size = w.heap.size + 1 := World.size_alloc _ _
  have hs2 : (w.alloc o').heap.size = w.heap.size + 1 := World.size_alloc _ _
  by_cases h : b < w.heap.size
  · rw [wx_heap _ _ _ (by omega), wx_heap _ _ _ (by omega)]
    show (w.heap.push o')[b]? = (w.heap.push o)[b]?
    rw [Array.getElem?_push, Array.getElem?_push, if_neg hn, if_neg hn]
  · have e1 := wx_heap_more (w.alloc o) X (b - (w.heap.size + 1))
    have e2 := wx_heap_more (w.alloc o') X (b - (w.heap.size + 1))
    have hn : ¬ b = w.heap.size := hn
    rw [hs1, show w.heap.size + 1 + (b - (w.heap.size + 1)) = b by omega] at e1
    rw [hs2, show w.heap.size + 1 + (b - (w.heap.size + 1)) = b by omega] at e2
    rw [e1, e2]
theorem turn_block (w : World) (o : Obj) (X : More) : (wx (w.alloc o) X).heap[w.heap.size]? = some o := ex_block (ex_wx (ex_refl _) X) (heap_alloc_new w o)
/-- The clash that is handed back. -/
def ClV (w : World) (pv : Option Addr) : Cl → Prop
  | none => pv = none
  | some x => ∃ q sa sb, pv = some ⟨q, 0, none⟩ ∧ w.heap[q]? = some (.cells #[sa, sb] 37 (0, 0)) ∧ OwnU w sa x.1 ∧ OwnU w sb x.2
theorem ClP.clv {w : World} {p : Nat} {pv : Option Addr} {c : Cl} (h : ClP w p pv c) : ClV w pv c := by
  cases c with
  | none => exact h
  | some x =>
    obtain ⟨q, sa, sb, e1, e2, e3, e4, e5⟩ := h
    exact ⟨q, sa, sb, e1, e3, e4, e5⟩
theorem nok_id {w : World} {r : Nat} {cs : Array Value} {fr : Nat × Nat} (h : w.heap[r]? = some (.cells cs 46 fr)) : NoK w (fun b => b = r) := ⟨fun b cs' t fr' hb h' => by
  subst hb
  rw [h] at h'
  cases h'
  exact ⟨by decide, by decide, by decide⟩⟩
theorem row_frm {p r : Nat} {A w5 : World} {cs : Array Value} {t : TypeId} {fr : Nat × Nat} (h : A.heap[r]? = some (.cells cs t fr)) (k : FrP p A w5) (hne : r ≠ p) : w5.heap[r]? = some (.cells cs t fr) :=
  (k.same r (Array.getElem?_eq_some_iff.1 h).1 hne).trans h
theorem frm_sets {w : World} {r : Nat} (o : Nat) (vs : List Value) : Frm (fun b => b = r) w (w.setCells r o vs) := (Frm.refl (fun b => b = r) w).sets (b := r) rfl o vs
theorem block_cellsF {w : World} {b n : Nat} {cs : Array Value} {t : TypeId} (h : w.heap[b]? = some (.cells cs t (0, 0))) (hn : cs.size = n) : cellsN w b 0 n = some cs ∧ frozenN w b 0 n = false ∧ b < w.heap.size := by
  subst hn
  refine ⟨cellsN_some.2 ⟨rfl, fun j hj => ?_⟩, frozenN_false.2 fun j hj => ?_, (Array.getElem?_eq_some_iff.1 h).1⟩
  · rw [Nat.zero_add, cell_of_row w b j cs t (0, 0) h]
  · simp [World.frozen?, h]
/-- The row that a call hands back is stored. -/
theorem k_end {p W r : Nat} {w A w5 : World} {c : Cl} {g : Nat → UInt8} (hrw : w.heap.size ≤ r) (hr : A.heap[r]? = some (.cells (rowB 32 g) 46 (0, 0))) (kw : Ex w A) (F5 : FrP p A w5) (K5 : Wk w5 p W c) (hne : r ≠ p) :
    (cellsN w5 r 0 32 = some (rowB 32 g) ∧ frozenN w5 r 0 32 = false ∧ r < w5.heap.size) ∧
    ∀ x : Dg, cellsN (w5.setCells r 0 (rowB 32 (dF x)).toList) r 0 32 = some (rowB 32 (dF x)) ∧ FrP p w (w5.setCells r 0 (rowB 32 (dF x)).toList) ∧ Wk (w5.setCells r 0 (rowB 32 (dF x)).toList) p W c := by
  have h5 := row_frm hr F5 hne
  refine ⟨block_cellsF h5 (by simp), fun x => ⟨?_, ?_, K5.frm (nok_id h5) (frm_sets 0 _)⟩⟩
  · have h6 := setCells_block r 46 (0, 0) (rowB 32 (dF x)).toList 0 w5 _ h5
    rw [spliceA_all _ _ (by simp)] at h6
    exact (block_cellsF h6 (by simp)).1
  · have f := (Frm.ex kw : FrP p w A).trans F5
    refine ⟨?_, ?_, ?_, ?_, fun b hb hn => ?_⟩
    · exact (frm_sets (r := r) 0 _).os.trans f.os
    · exact (frm_sets (r := r) 0 _).tape.trans f.tape
    · exact (frm_sets (r := r) 0 _).output.trans f.output
    · exact Nat.le_trans f.size (frm_sets (r := r) 0 _).size
    · exact ((frm_sets (r := r) 0 _).same b (Nat.lt_of_lt_of_le hb f.size) (by omega)).trans (f.same b hb hn)
end Go.Proofs.YtcdocklbpfdmeaaDoor

/- Collide: put, rest. -/
set_option linter.unusedSimpArgs false
set_option linter.unusedVariables false
set_option linter.unnecessarySimpa false
set_option maxRecDepth 20000
namespace Go.Proofs.YtcdocklbpfdmeaaDoor
open Go.RowKit
set_option maxHeartbeats 1000000 in
theorem put_any {w0 : World} (G : Glob w0) (W : Nat) (hW : W ≤ 256) {p : Nat} {c : Cl} {v u : Value} {A D : List UInt8} {w : World} (k0 : Ex w0 w) (hk : Wk w p W c) (hv : OwnU w v A) (hu : OwnU w u D) (hA : A.length ≤ 1000000) (hD : D.length ≤ 1000000) :
    Calls Tryd.prog 100 #[.pointer (some ⟨p, 0, none⟩), v, u] w (PostK p W w (.agg (rowB 32 (dF (putC (sumW W) A D c).1))) (putC (sumW W) A D c).2) := by
  have HS : Hid (∀ w', Ex w w' → Calls Tryd.prog 61 #[I W, v] w' (Post w' (.agg (rowB 32 (dF (sumW W A)))))) := Lib.hid fun w' k => wsum_any G W hW (ex_trans k0 k) (hv.slt.ex k) hA
  have HT : Hid (∀ w', Ex w w' → Calls Tryd.prog 61 #[I W, u] w' (Post w' (.agg (rowB 32 (dF (sumW W D)))))) := Lib.hid fun w' k => wsum_any G W hW (ex_trans k0 k) (hu.slt.ex k) hD
  have HE : Hid (∀ w', Ex w w' → Calls Tryd.prog 35 #[v, u] w' (Post w' (.bool (decide (A = D))))) := Lib.hid fun w' k => bytesEq_any (hv.slt.ex k) (hu.slt.ex k)
  have hw0 := hk.width
  have hlt := hk.lt
  have HK := Lib.hid hk
  obtain ⟨va, vc, rfl, _⟩ := hv.slt.out
  obtain ⟨ua, uc, rfl, _⟩ := hu.slt.out
  have HV := Lib.hid hv
  have HU := Lib.hid hu
  have H1 : Hid ((putC (sumW W) A D c).1 = sumW W A) := Lib.hid rfl
  rw [H1.out]
  by_cases hc : c = none
  · subst hc
    have hw1 : w.cell? ⟨p, 1, none⟩ = some (.pointer none) := by rw [cell_of_row w p 1 _ _ _ hk.none_cell]; rfl
    by_cases hAD : A = D
    · have H2 : Hid ((putC (sumW W) A D none).2 = none) := Lib.hid (by unfold putC; rw [if_neg (by simp [hAD])])
      rw [H2.out]
      rw [decide_eq_true hAD] at HE
      generalize sumW W A = x at HS ⊢
      clear hk hv hu hAD H1 H2 HT
      go_enter Tryd.func100, Tryd.ntmps100
      go_wp2_with (go_at_call 61; (with_reducible refine (HS.out _ (by (try show Ex _ _); with_reducible repeat (first | exact ex_refl _ | assumption | refine ex_drewL ?_ | refine ex_appR ?_ _ | refine ex_wx ?_ _ | refine ex_drew ?_ | refine ex_alloc ?_ _))).mono ?_); rintro e w2 ⟨rfl, X, rfl⟩)
      refine wp_region_seq [(0, true), (1, true), (2, true), (3, true), (4, true), (5, true), (6, true), (7, true), (8, false), (9, true), (10, true), (11, true), (12, true), (13, true), (14, true), (15, true), (16, true), (17, true), (18, false), (19, true), (20, true)] (by kernel_rfl) (by kernel_rfl) (fun _ _ d _ _ h => by cases d <;> exact h) ?_
      simp only [List.map_cons, List.map_nil, nth]
      repeat (first | ((with_reducible refine wpSeq_look ?_); go_big_quiet_step (fail); (with_reducible refine wpQuiet_nil ?_)) | ((with_reducible refine wpSeq_effF ?_ ?_); (focus rfl); go_simp) | ((with_reducible refine wpSeq_eff ?_ ?_); (focus rfl); (try dsimp only); go_wp2_with (first | (go_at_call 35; (with_reducible refine (HE.out _ (by (try show Ex _ _); with_reducible repeat (first | exact ex_refl _ | assumption | refine ex_drewL ?_ | refine ex_appR ?_ _ | refine ex_wx ?_ _ | refine ex_drew ?_ | refine ex_alloc ?_ _))).mono ?_); rintro e w2 ⟨rfl, X, rfl⟩)); refine mixQ_mk (by (try show Ex _ _); with_reducible repeat (first | exact ex_refl _ | assumption | refine ex_drewL ?_ | refine ex_appR ?_ _ | refine ex_wx ?_ _ | refine ex_drew ?_ | refine ex_alloc ?_ _)) ?_))
      refine wpSeq_nil ?_
      go_wp2
      exact ret_row (cs := rowB 32 (dF x)) Tryd.results100 Tryd.underlying46 rfl info_id rfl (by simp [go_sem]) rfl (postk_ex rfl HK.out (by (try show Ex _ _); with_reducible repeat (first | exact ex_refl _ | assumption | refine ex_drewL ?_ | refine ex_appR ?_ _ | refine ex_wx ?_ _ | refine ex_drew ?_ | refine ex_alloc ?_ _)))
    · rw [decide_eq_false hAD] at HE
      have he := eqD (sumW W A) (sumW W D)
      by_cases hSS : sumW W A = sumW W D
      · have H2 : Hid ((putC (sumW W) A D none).2 = some (A, D)) := Lib.hid (by unfold putC; rw [if_pos ⟨rfl, hAD, hSS⟩])
        rw [H2.out]
        rw [decide_eq_true hSS] at he
        generalize sumW W A = x at HS he ⊢
        generalize sumW W D = y at HT he
        clear hk hv hu hAD H1 H2 hSS
        have hf1 : w.frozen? ⟨p, 1, none⟩ = false := (block_cellF (o := 1) (v := .pointer none) HK.out.none_cell rfl).2
        go_enter Tryd.func100, Tryd.ntmps100
        go_wp2_with (go_at_call 61; (with_reducible refine (HS.out _ (by (try show Ex _ _); with_reducible repeat (first | exact ex_refl _ | assumption | refine ex_drewL ?_ | refine ex_appR ?_ _ | refine ex_wx ?_ _ | refine ex_drew ?_ | refine ex_alloc ?_ _))).mono ?_); rintro e w2 ⟨rfl, X, rfl⟩)
        refine wp_region_seq [(0, true), (1, true), (2, true), (3, true), (4, true), (5, true), (6, true), (7, true), (8, false), (9, true), (10, true), (11, true), (12, true), (13, true), (14, true), (15, true), (16, true), (17, true), (18, false), (19, true), (20, true)] (by kernel_rfl) (by kernel_rfl) (fun _ _ d _ _ h => by cases d <;> exact h) ?_
        simp only [List.map_cons, List.map_nil, nth]
        repeat (first | ((with_reducible refine wpSeq_look ?_); go_big_quiet_step (fail); (with_reducible refine wpQuiet_nil ?_)) | ((with_reducible refine wpSeq_effF ?_ ?_); (focus rfl); go_simp) | ((with_reducible refine wpSeq_eff ?_ ?_); (focus rfl); (try dsimp only); go_wp2_with (first | (go_at_call 35; (with_reducible refine (HE.out _ (by (try show Ex _ _); with_reducible repeat (first | exact ex_refl _ | assumption | refine ex_drewL ?_ | refine ex_appR ?_ _ | refine ex_wx ?_ _ | refine ex_drew ?_ | refine ex_alloc ?_ _))).mono ?_); rintro e w2 ⟨rfl, X, rfl⟩) | (go_at_call 61; (with_reducible refine (HT.out _ (by (try show Ex _ _); with_reducible repeat (first | exact ex_refl _ | assumption | refine ex_drewL ?_ | refine ex_appR ?_ _ | refine ex_wx ?_ _ | refine ex_drew ?_ | refine ex_alloc ?_ _))).mono ?_); rintro e w2 ⟨rfl, X, rfl⟩)); refine mixQ_mk (by (try show Ex _ _); with_reducible repeat (first | exact ex_refl _ | assumption | refine ex_drewL ?_ | refine ex_appR ?_ _ | refine ex_wx ?_ _ | refine ex_drew ?_ | refine ex_alloc ?_ _)) ?_))
        refine wpSeq_nil ?_
        go_wp2
        all_goals first | (exfalso; omega) | exact ret_row (cs := rowB 32 (dF x)) Tryd.results100 Tryd.underlying46 rfl info_id rfl (by simp [go_sem] <;> omega) rfl ⟨rfl, HK.out.noteP (by (try show Ex _ _); with_reducible repeat (first | exact ex_refl _ | assumption | refine ex_drewL ?_ | refine ex_appR ?_ _ | refine ex_wx ?_ _ | refine ex_drew ?_ | refine ex_alloc ?_ _)) (by simp [go_sem]) HV.out HU.out⟩
      · have H2 : Hid ((putC (sumW W) A D none).2 = none) := Lib.hid (by unfold putC; rw [if_neg (by simp [hSS])])
        rw [H2.out]
        rw [decide_eq_false hSS] at he
        generalize sumW W A = x at HS he ⊢
        generalize sumW W D = y at HT he
        clear hk hv hu hAD H1 H2 hSS
        go_enter Tryd.func100, Tryd.ntmps100
        go_wp2_with (go_at_call 61; (with_reducible refine (HS.out _ (by (try show Ex _ _); with_reducible repeat (first | exact ex_refl _ | assumption | refine ex_drewL ?_ | refine ex_appR ?_ _ | refine ex_wx ?_ _ | refine ex_drew ?_ | refine ex_alloc ?_ _))).mono ?_); rintro e w2 ⟨rfl, X, rfl⟩)
        refine wp_region_seq [(0, true), (1, true), (2, true), (3, true), (4, true), (5, true), (6, true), (7, true), (8, false), (9, true), (10, true), (11, true), (12, true), (13, true), (14, true), (15, true), (16, true), (17, true), (18, false), (19, true), (20, true)] (by kernel_rfl) (by kernel_rfl) (fun _ _ d _ _ h => by cases d <;> exact h) ?_
        simp only [List.map_cons, List.map_nil, nth]
        repeat (first | ((with_reducible refine wpSeq_look ?_); go_big_quiet_step (fail); (with_reducible refine wpQuiet_nil ?_)) | ((with_reducible refine wpSeq_effF ?_ ?_); (focus rfl); go_simp) | ((with_reducible refine wpSeq_eff ?_ ?_); (focus rfl); (try dsimp only); go_wp2_with (first | (go_at_call 35; (with_reducible refine (HE.out _ (by (try show Ex _ _); with_reducible repeat (first | exact ex_refl _ | assumption | refine ex_drewL ?_ | refine ex_appR ?_ _ | refine ex_wx ?_ _ | refine ex_drew ?_ | refine ex_alloc ?_ _))).mono ?_); rintro e w2 ⟨rfl, X, rfl⟩) | (go_at_call 61; (with_reducible refine (HT.out _ (by (try show Ex _ _); with_reducible repeat (first | exact ex_refl _ | assumption | refine ex_drewL ?_ | refine ex_appR ?_ _ | refine ex_wx ?_ _ | refine ex_drew ?_ | refine ex_alloc ?_ _))).mono ?_); rintro e w2 ⟨rfl, X, rfl⟩)); refine mixQ_mk (by (try show Ex _ _); with_reducible repeat (first | exact ex_refl _ | assumption | refine ex_drewL ?_ | refine ex_appR ?_ _ | refine ex_wx ?_ _ | refine ex_drew ?_ | refine ex_alloc ?_ _)) ?_))
        refine wpSeq_nil ?_
        go_wp2
        exact ret_row (cs := rowB 32 (dF x)) Tryd.results100 Tryd.underlying46 rfl info_id rfl (by simp [go_sem]) rfl (postk_ex rfl HK.out (by (try show Ex _ _); with_reducible repeat (first | exact ex_refl _ | assumption | refine ex_drewL ?_ | refine ex_appR ?_ _ | refine ex_wx ?_ _ | refine ex_drew ?_ | refine ex_alloc ?_ _)))
  · obtain ⟨y, rfl⟩ : ∃ y, c = some y := Option.ne_none_iff_exists'.1 hc
    obtain ⟨q, hq⟩ := hk.some_cell
    have hw1 : w.cell? ⟨p, 1, none⟩ = some (.pointer (some ⟨q, 0, none⟩)) := by rw [cell_of_row w p 1 _ _ _ hq]; rfl
    have H2 : Hid ((putC (sumW W) A D (some y)).2 = some y) := Lib.hid (by unfold putC; rw [if_neg (by simp)])
    rw [H2.out]
    generalize sumW W A = x at HS ⊢
    clear hk hv hu H1 H2 HT HE hq hc
    go_enter Tryd.func100, Tryd.ntmps100
    go_wp2_with (go_at_call 61; (with_reducible refine (HS.out _ (by (try show Ex _ _); with_reducible repeat (first | exact ex_refl _ | assumption | refine ex_drewL ?_ | refine ex_appR ?_ _ | refine ex_wx ?_ _ | refine ex_drew ?_ | refine ex_alloc ?_ _))).mono ?_); rintro e w2 ⟨rfl, X, rfl⟩)
    refine wp_region_seq [(0, true), (1, true), (2, true), (3, true), (4, true), (5, true), (6, true), (7, true), (8, false), (9, true), (10, true), (11, true), (12, true), (13, true), (14, true), (15, true), (16, true), (17, true), (18, false), (19, true), (20, true)] (by kernel_rfl) (by kernel_rfl) (fun _ _ d _ _ h => by cases d <;> exact h) ?_
    simp only [List.map_cons, List.map_nil, nth]
    repeat (first | ((with_reducible refine wpSeq_look ?_); go_big_quiet_step (fail); (with_reducible refine wpQuiet_nil ?_)) | ((with_reducible refine wpSeq_effF ?_ ?_); (focus rfl); go_simp) | ((with_reducible refine wpSeq_eff ?_ ?_); (focus rfl); (try dsimp only); go_wp2_with (fail); refine mixQ_mk (by (try show Ex _ _); with_reducible repeat (first | exact ex_refl _ | assumption | refine ex_drewL ?_ | refine ex_appR ?_ _ | refine ex_wx ?_ _ | refine ex_drew ?_ | refine ex_alloc ?_ _)) ?_))
    refine wpSeq_nil ?_
    go_wp2
    exact ret_row (cs := rowB 32 (dF x)) Tryd.results100 Tryd.underlying46 rfl info_id rfl (by simp [go_sem]) rfl (postk_ex rfl HK.out (by (try show Ex _ _); with_reducible repeat (first | exact ex_refl _ | assumption | refine ex_drewL ?_ | refine ex_appR ?_ _ | refine ex_wx ?_ _ | refine ex_drew ?_ | refine ex_alloc ?_ _)))
/-- A value handed back, and a row in memory. -/
theorem ret_Vrow {P : Program} {fn : Func} {p q : Tmp} {ty : TypeId} {d : TypeDesc} {n b : Nat} {cs : Array Value} {v : Value} {R : Ending → World → Prop} {a : Act} {w : World} (h : fn.results = #[.tmp q, .cell p ty])
    (hu : P.underlying ty = some d) (hd : d.isRow = true) (hi : (P.info? ty).map (·.size) = some n) (hp : a.tmps.getD p undef = .pointer (some ⟨b, 0, none⟩)) (hc : cellsN w b 0 n = some cs) (hq : a.tmps.getD q undef = v) (hdf : a.defers = [])
    (hR : R (.returned (.tuple #[v, .agg cs])) w) : bodyPost P fn R .ret a w := by
  have h1 := (cellsN_some.1 hc).1
  have hrun := run_loadVar_mid (P := P) w b 0 ty cs.toList d (cellsN_range hc) hu hd (by rw [hi]; simp [h1])
  have hp' : a.tmps[p]?.getD undef = .pointer (some ⟨b, 0, none⟩) := by simpa using hp
  have hq' : a.tmps[q]?.getD undef = v := by simpa using hq
  exact bodyPost_ret (by simp [results, h, hp', hq', asAddr, hrun]) hdf hR
/-- What is no proof leaves by panic. -/
def offE : Ending := .panicked [{ v := .iface 177 (.agg #[]), recovered := false }]
theorem rest_none (a : Option Addr) (c : Nat) (w : World) : Calls Tryd.prog 142 #[.slice a 0 c] w fun e w' => e = offE ∧ Ex w w' := by
  go_enter Tryd.func142, Tryd.ntmps142
  go_wp2
  exact ⟨rfl, rfl, (by (try show Ex _ _); with_reducible repeat (first | exact ex_refl _ | assumption | refine ex_drewL ?_ | refine ex_appR ?_ _ | refine ex_wx ?_ _ | refine ex_drew ?_ | refine ex_alloc ?_ _))⟩
set_option maxHeartbeats 1000000 in
theorem rest_some (r : List Dg) (x : Dg) (a : Option Addr) (c : Nat) (w : World) (hc : r.length + 1 ≤ c) (hcm : c ≤ maxLen) (hs : SlD w a (r ++ [x])) :
    Calls Tryd.prog 142 #[.slice a ((r.length + 1 : Nat)) c] w (Post w (.tuple #[.slice a r.length c, .agg (rowB 32 (dF x))])) := by
  obtain ⟨g, off, rfl, hg, hcell⟩ := hs.pos (by simp)
  have h1 := hcell r.length x (by simp)
  unfold maxLen at hcm
  generalize r.length = n at *
  clear hcell hs
  have e0 : (((n + 1 : Nat) : Int) == 0) = false := beq_eq_false_iff_ne.2 (by omega)
  have mixed : Tryd.prog.follows .mixedOrders = true := by kernel_rfl
  go_enter Tryd.func142, Tryd.ntmps142
  go_wp2
  go_big_region_o
  go_wp2
  exact ret_Vrow (cs := rowB 32 (dF x)) Tryd.results142 Tryd.underlying46 rfl info_id rfl (by simp [go_sem]) rfl rfl (post_mk rfl (by (try show Ex _ _); with_reducible repeat (first | exact ex_refl _ | assumption | refine ex_drewL ?_ | refine ex_appR ?_ _ | refine ex_wx ?_ _ | refine ex_drew ?_ | refine ex_alloc ?_ _)))
end Go.Proofs.YtcdocklbpfdmeaaDoor
