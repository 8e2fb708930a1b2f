import Derived.Test.YtcdocklbpfdmeaaDoorMPrv
import Derived.Test.YtcdocklbpfdmeaaDoorMBelow

/- What the root of a span keeps while the tree is climbed. -/
set_option linter.unusedSimpArgs false
set_option linter.unusedVariables false
set_option maxRecDepth 20000
namespace Go.Proofs.YtcdocklbpfdmeaaDoor
open Go.RowKit
structure InvT (A : World) (bt : Nat) (p : Nat → Prop) (k : Nat) (w : World) : Prop where
  ex : Ex A w
  low : ∀ b, p b → A.heap.size ≤ b ∧ b < w.heap.size ∧ b ≠ bt
  btA : A.heap.size ≤ bt
  row : w.heap[bt]? = some (.cells #[I k] 3 (0, 0))
theorem invT_ok {A : World} (G : Glob A) (bt : Nat) : Inv4 (InvT A bt) where
  glob := fun h => G.ex h.ex
  low := fun h hb => (h.low _ hb).2.1
  grow := fun {p s w} q w' h k hq => by
    have h1 := ex_size h.ex
    have h2 := ex_size k
    have hbt : bt < w.heap.size := (Array.getElem?_eq_some_iff.1 h.row).1
    refine ⟨ex_trans h.ex k, fun b hb => ?_, h.btA, ex_block k h.row⟩
    rcases hq b hb with h3 | ⟨h3, h4⟩
    · have := h.low b h3
      omega
    · omega
  set := fun {p s w b} o vs h hb => by
    have hl := h.low b hb
    refine ⟨ex_setCells h.ex hl.1 o vs, fun b2 hb2 => by rw [setCells_size]; exact h.low b2 hb2, h.btA, ?_⟩
    rw [setCells_heap _ _ _ _ _ (Ne.symm hl.2.2)]; exact h.row
theorem invT_step {A w wE : World} {bt k : Nat} {p : Nat → Prop} (hI : InvT A bt p k w) (k' : Nat) (kE : Ex (w.setCell ⟨bt, 0, none⟩ (I k')) wE) : HeldP p w wE ∧ InvT A bt p k' wE := by
  have h1 : (w.setCell ⟨bt, 0, none⟩ (I k')).heap.size = w.heap.size := setCell_sizeR _ _ _
  have h2 := ex_size kE
  have kA : Ex A (w.setCell ⟨bt, 0, none⟩ (I k')) := ex_set hI.ex (p := ⟨bt, 0, none⟩) hI.btA _
  refine ⟨⟨by omega, fun b hb => ?_⟩, ex_trans kA kE, fun b hb => ?_, hI.btA, ex_block kE (setCell_block (I k') hI.row)⟩
  · have hl := hI.low b hb
    obtain ⟨X, rfl⟩ := kE
    rw [wx_heap _ _ _ (by omega), setCell_heap _ hl.2.2]
  · have hl := hI.low b hb
    omega
theorem invT_post {A w w' : World} (G : Glob A) {bt k : Nat} {p : Nat → Prop} (hI : InvT A bt p k w) {v : Value} {e : Ending} (he : e = .returned v) (kx : Ex w w') : PostC (InvT A bt) p k w v e w' :=
  ⟨he, held_ex kx fun b hb => (hI.low b hb).2.1, (invT_ok G bt).grow _ hI kx fun b hb => .inl hb⟩
def FT (ps : List Pr) (qs : List Dg) (first : Nat) (at_ n : Nat) (k : Nat) : Option Dg × Nat :=
  if at_ + n ≤ first ∨ first + ps.length ≤ at_ then (some (qs.getD k zeroD), k + 1) else if n = 1 then (some (leafP (prAt ps (at_ - first))), k) else (none, k)
set_option maxHeartbeats 2000000 in
theorem top2_any {A : World} (G : Glob A) (ps : List Pr) (qs : List Dg) (pa qa : Option Addr) (pc qc first total bs be bt : Nat) (hpc : ps.length ≤ pc) (hpm : pc ≤ maxLen) (hqc : qs.length ≤ qc) (hqm : qc ≤ maxLen) (hps : SlP A pa ps) (hqs : SlD A qa qs)
    (hb1 : A.cell? ⟨bs, 1, none⟩ = some (I first)) (hb2 : A.cell? ⟨bs, 2, none⟩ = some (.slice pa ps.length pc)) (hb3 : A.cell? ⟨bs, 3, none⟩ = some (.slice qa qs.length qc)) (hbs : bs < A.heap.size)
    (hbe : A.cell? ⟨be, 0, none⟩ = some (I (first + ps.length : Nat))) (hbe2 : be < A.heap.size)
    (at_ n : Nat) (h1 : 1 ≤ n) (hat : at_ + n ≤ 1000) (k : Nat) (hk : k ≤ at_) (p : Nat → Prop) (w : World) (hI : InvT A bt p k w) :
    Calls Tryd.prog 107 #[I at_, I n, .pointer (some ⟨bs, 0, none⟩), .pointer (some ⟨be, 0, none⟩), .pointer (some ⟨bt, 0, none⟩)] w
      (PostC (InvT A bt) p (FT ps qs first at_ n k).2 w (.tuple #[.agg (rowB 32 (dF ((FT ps qs first at_ n k).1.getD zeroD))), .bool (FT ps qs first at_ n k).1.isSome])) := by
  have a1 := ex_cell hI.ex hb1 hbs
  have a2 := ex_cell hI.ex hb2 hbs
  have a3 := ex_cell hI.ex hb3 hbs
  have a4 := ex_cell hI.ex hbe hbe2
  have hA := ex_size hI.ex
  have b4 : bs < w.heap.size := by omega
  have b5 : be < w.heap.size := by omega
  have hbt : bt < w.heap.size := (Array.getElem?_eq_some_iff.1 hI.row).1
  obtain ⟨r1, r2⟩ := block_cell (o := 0) hI.row rfl
  have HI := Lib.hid hI
  have GW : Hid (Glob w) := Lib.hid (G.ex hI.ex)
  by_cases ho : at_ + n ≤ first ∨ first + ps.length ≤ at_
  · have hx : FT ps qs first at_ n k = (some (qs.getD k zeroD), k + 1) := by unfold FT; rw [if_pos ho]
    rw [hx]
    simp only [Option.getD_some, Option.isSome_some]
    have KS : ∀ v, Ex A (w.setCell ⟨bt, 0, none⟩ v) := fun v => ex_set hI.ex (p := ⟨bt, 0, none⟩) hI.btA _
    have s1 : ∀ v, (w.setCell ⟨bt, 0, none⟩ v).cell? ⟨bt, 0, none⟩ = some v := fun v => (block_cell (setCell_block v hI.row) rfl).1
    have s2 : ∀ v, (w.setCell ⟨bt, 0, none⟩ v).cell? ⟨bs, 3, none⟩ = some (.slice qa qs.length qc) := fun v => ex_cell (KS v) hb3 hbs
    have HST : Hid (∀ wE, Ex (w.setCell ⟨bt, 0, none⟩ (I ((k : Int) + 1))) wE → HeldP p w wE ∧ InvT A bt p (k + 1) wE) := Lib.hid fun wE kE => invT_step hI (k + 1) (by rw [show ((k + 1 : Nat) : Int) = (k : Int) + 1 by omega]; exact kE)
    have HD : Hid (∀ v, k < qs.length → ∃ g off, qa = some ⟨g, off, none⟩ ∧ g < w.heap.size ∧ cellsN (w.setCell ⟨bt, 0, none⟩ v) g (off + k * 32) 32 = some (rowB 32 (dF (qs.getD k zeroD)))) := Lib.hid fun v hlt => by
      obtain ⟨g, off, e1, e2, e3⟩ := ((hqs.ex (KS v))).pos (by omega)
      refine ⟨g, off, e1, by rw [setCell_sizeR] at e2; exact e2, e3 k _ ?_⟩
      rw [List.getD_eq_getElem?_getD, List.getElem?_eq_getElem hlt]; rfl
    have HZ : Hid (qs.length ≤ k → qs.getD k zeroD = zeroD) := Lib.hid fun h => by rw [List.getD_eq_getElem?_getD, List.getElem?_eq_none h]; rfl
    generalize qs.getD k zeroD = d at HD HZ ⊢
    generalize ps.length = L1 at *
    generalize qs.length = L2 at *
    clear hx KS hb1 hb2 hb3 hbe hps hqs hI
    by_cases d1 : at_ + n ≤ first
    · have d1t : decide ((at_ : Int) + n ≤ first) = true := decide_eq_true (by omega)
      clear d1 ho
      by_cases hlt : k < L2
      · obtain ⟨g, off, rfl, g1, g2⟩ := HD.out (I (k + 1 : Nat)) hlt
        have e1 : ¬ ((L2 : Int) < (k : Int) + 1) := by omega
        have e2 : ((k + 1 : Nat) : Int) = (k : Int) + 1 := by omega
        rw [e2] at g2
        go_enter Tryd.func107, Tryd.ntmps107
        go_wp2
        obtain ⟨z1, z2⟩ := HST.out ((w.setCell ⟨bt, 0, none⟩ (I ((k : Int) + 1))).alloc (.cells (rowB 32 (dF d)) 46)) (by (try show Ex _ _); with_reducible repeat (first | exact ex_refl _ | assumption | refine ex_drewL ?_ | refine ex_appR ?_ _ | refine ex_wx ?_ _ | refine ex_drew ?_ | refine ex_alloc ?_ _))
        exact ret_rowV (cs := rowB 32 (dF d)) (v := .bool true) Tryd.results107 Tryd.underlying46 rfl info_id rfl (by simp [go_sem, setCell_sizeR]) rfl rfl ⟨rfl, z1, z2⟩
      · have e1 : ((L2 : Int) < (k : Int) + 1) := by omega
        have hd := HZ.out (by omega)
        subst hd
        rw [row_zero]
        go_enter Tryd.func107, Tryd.ntmps107
        go_wp2
        obtain ⟨z1, z2⟩ := HST.out ((w.setCell ⟨bt, 0, none⟩ (I ((k : Int) + 1))).alloc (.cells (rowB 32 fun _ => 0) 46)) (by (try show Ex _ _); with_reducible repeat (first | exact ex_refl _ | assumption | refine ex_drewL ?_ | refine ex_appR ?_ _ | refine ex_wx ?_ _ | refine ex_drew ?_ | refine ex_alloc ?_ _))
        exact ret_rowV (cs := rowB 32 fun _ => 0) (v := .bool true) Tryd.results107 Tryd.underlying46 rfl info_id rfl (by simp [go_sem, setCell_sizeR]) rfl rfl ⟨rfl, z1, z2⟩
    · have d1t : decide ((at_ : Int) + n ≤ first) = false := decide_eq_false (by omega)
      have d2t : decide ((first : Int) + L1 ≤ at_) = true := decide_eq_true (by omega)
      have d2u : decide (first + L1 ≤ at_) = true := decide_eq_true (by omega)
      clear d1 ho
      by_cases hlt : k < L2
      · obtain ⟨g, off, rfl, g1, g2⟩ := HD.out (I (k + 1 : Nat)) hlt
        have e1 : ¬ ((L2 : Int) < (k : Int) + 1) := by omega
        have e2 : ((k + 1 : Nat) : Int) = (k : Int) + 1 := by omega
        rw [e2] at g2
        go_enter Tryd.func107, Tryd.ntmps107
        go_wp2
        obtain ⟨z1, z2⟩ := HST.out ((w.setCell ⟨bt, 0, none⟩ (I ((k : Int) + 1))).alloc (.cells (rowB 32 (dF d)) 46)) (by (try show Ex _ _); with_reducible repeat (first | exact ex_refl _ | assumption | refine ex_drewL ?_ | refine ex_appR ?_ _ | refine ex_wx ?_ _ | refine ex_drew ?_ | refine ex_alloc ?_ _))
        exact ret_rowV (cs := rowB 32 (dF d)) (v := .bool true) Tryd.results107 Tryd.underlying46 rfl info_id rfl (by simp [go_sem, setCell_sizeR]) rfl rfl ⟨rfl, z1, z2⟩
      · have e1 : ((L2 : Int) < (k : Int) + 1) := by omega
        have hd := HZ.out (by omega)
        subst hd
        rw [row_zero]
        go_enter Tryd.func107, Tryd.ntmps107
        go_wp2
        obtain ⟨z1, z2⟩ := HST.out ((w.setCell ⟨bt, 0, none⟩ (I ((k : Int) + 1))).alloc (.cells (rowB 32 fun _ => 0) 46)) (by (try show Ex _ _); with_reducible repeat (first | exact ex_refl _ | assumption | refine ex_drewL ?_ | refine ex_appR ?_ _ | refine ex_wx ?_ _ | refine ex_drew ?_ | refine ex_alloc ?_ _))
        exact ret_rowV (cs := rowB 32 fun _ => 0) (v := .bool true) Tryd.results107 Tryd.underlying46 rfl info_id rfl (by simp [go_sem, setCell_sizeR]) rfl rfl ⟨rfl, z1, z2⟩
  · have d1t : decide ((at_ : Int) + n ≤ first) = false := decide_eq_false (by omega)
    have d2t : decide ((first : Int) + ps.length ≤ at_) = false := decide_eq_false (by omega)
    have d2u : decide (first + ps.length ≤ at_) = false := decide_eq_false (by omega)
    by_cases hn : n = 1
    · subst hn
      have hx : FT ps qs first at_ 1 k = (some (leafP (prAt ps (at_ - first))), k) := by unfold FT; rw [if_neg ho, if_pos rfl]
      rw [hx]
      simp only [Option.getD_some, Option.isSome_some]
      have d1u : decide ((at_ : Int) + 1 ≤ first) = false := decide_eq_false (by omega)
      obtain ⟨i, hi⟩ : ∃ i, at_ - first = i := ⟨_, rfl⟩
      have hi2 : (at_ : Int) - first = i := by omega
      have hi3 : i < ps.length := by omega
      have hi4 : (i : Int) < ps.length := by omega
      obtain ⟨g, off, rfl, hg, _, q1, q2⟩ := (hps.ex hI.ex).row hi3
      rw [hi]
      have HL := Lib.hid (fun w' (k' : Ex w w') => sleaf_any GW.out (prAt ps i) w' k')
      unfold PC at HL
      generalize prAt ps i = pr at q1 q2 HL ⊢
      generalize leafP pr = z at HL ⊢
      obtain ⟨s, t⟩ := pr
      simp only at q1 q2 HL
      generalize ps.length = L1 at *
      clear hx ho hi hb1 hb2 hb3 hbe hps hqs hI
      go_enter Tryd.func107, Tryd.ntmps107
      go_wp2_with (go_at_call 105; (with_reducible refine (HL.out _ (by (try show Ex _ _); with_reducible repeat (first | exact ex_refl _ | assumption | refine ex_drewL ?_ | refine ex_appR ?_ _ | refine ex_wx ?_ _ | refine ex_drew ?_ | refine ex_alloc ?_ _))).mono ?_); rintro e w2 ⟨rfl, X, rfl⟩)
      exact ret_rowV (cs := rowB 32 (dF z)) (v := .bool true) Tryd.results107 Tryd.underlying46 rfl info_id rfl (by simp [go_sem]) rfl rfl (invT_post G HI.out rfl (by (try show Ex _ _); with_reducible repeat (first | exact ex_refl _ | assumption | refine ex_drewL ?_ | refine ex_appR ?_ _ | refine ex_wx ?_ _ | refine ex_drew ?_ | refine ex_alloc ?_ _)))
    · have hx : FT ps qs first at_ n k = (none, k) := by unfold FT; rw [if_neg ho, if_neg hn]
      have e0 : ((n : Int) == 1) = false := beq_eq_false_iff_ne.2 (by omega)
      rw [hx]
      simp only [Option.getD_none, Option.isSome_none]
      rw [row_zero]
      generalize ps.length = L1 at *
      clear hx ho hn hb1 hb2 hb3 hbe hps hqs hI
      go_enter Tryd.func107, Tryd.ntmps107
      go_wp2
      exact ret_rowV (cs := rowB 32 fun _ => 0) (v := .bool false) Tryd.results107 Tryd.underlying46 rfl info_id rfl (by simp [go_sem]) rfl rfl (invT_post G HI.out rfl (by (try show Ex _ _); with_reducible repeat (first | exact ex_refl _ | assumption | refine ex_drewL ?_ | refine ex_appR ?_ _ | refine ex_wx ?_ _ | refine ex_drew ?_ | refine ex_alloc ?_ _)))
end Go.Proofs.YtcdocklbpfdmeaaDoor

/- Collide's plain law: by the whole width a span's top is Search's (checked stand-alone). -/
set_option linter.unusedSimpArgs false
set_option linter.unusedVariables false
set_option linter.unnecessarySimpa false
namespace Go.Proofs.YtcdocklbpfdmeaaDoor
attribute [local irreducible] sumD
/-! ### By the whole width: spans -/
theorem putH_fst {S : List UInt8 → Dg} (a : List UInt8) (b : Option (List UInt8)) (c : Cl) : (putH S a b c).1 = S a := by cases b <;> rfl
theorem tree_up (ps : List Pr) (qs : List Dg) (f : Nat) (n : Nat) : ∀ a k, k ≤ (treeD (FT ps qs f) a n k).2 := by
  induction n using Nat.strongRecOn with
  | _ n ih =>
    intro a k
    by_cases ho : a + n ≤ f ∨ f + ps.length ≤ a
    · rw [tree_done (d := qs.getD k zeroD) (s1 := k + 1) (by unfold FT; rw [if_pos ho])]; dsimp only; exact Nat.le_succ k
    · by_cases h1 : n = 1
      · rw [tree_done (d := leafP (prAt ps (a - f))) (s1 := k) (by unfold FT; rw [if_neg ho, if_pos h1])]; dsimp only; exact Nat.le_refl k
      · have hF : FT ps qs f a n k = (none, k) := by unfold FT; rw [if_neg ho, if_neg h1]
        by_cases h2 : 2 ≤ n
        · rw [tree_more hF h2]
          exact Nat.le_trans (ih _ (split_lt h2) _ _) (ih _ (by have := split_pos n; omega) _ _)
        · unfold treeD; rw [hF]; dsimp only; rw [dif_neg h2]; exact Nat.le_refl k
theorem spanC_tree (ps : List Pr) (qs : List Dg) (f : Nat) (n : Nat) : ∀ (a k : Nat) (l : List Pr) (c : Cl), 1 ≤ n → k ≤ qs.length →
    (if (treeD (FT ps qs f) a n k).2 ≤ qs.length then ∃ c', spanC sumD zeroD leafL f ps a n (qs.drop k) l c = some ((treeD (FT ps qs f) a n k).1, qs.drop (treeD (FT ps qs f) a n k).2, c') else spanC sumD zeroD leafL f ps a n (qs.drop k) l c = none) := by
  induction n using Nat.strongRecOn with
  | _ n ih =>
    intro a k l c hn hk
    by_cases ho : a + n ≤ f ∨ f + ps.length ≤ a
    · rw [tree_done (d := qs.getD k zeroD) (s1 := k + 1) (by unfold FT; rw [if_pos ho]), spanC_out ho]
      dsimp only
      by_cases hlt : k < qs.length
      · rw [if_pos (show k + 1 ≤ qs.length by omega), List.drop_eq_getElem_cons hlt]
        exact ⟨c, by simp [popD, List.getD_eq_getElem?_getD, hlt]⟩
      · rw [if_neg (show ¬ k + 1 ≤ qs.length by omega), List.drop_eq_nil_of_le (by omega)]; rfl
    · by_cases h1 : n = 1
      · rw [tree_done (d := leafP (prAt ps (a - f))) (s1 := k) (by unfold FT; rw [if_neg ho, if_pos h1]), spanC_one ho (by omega)]
        dsimp only
        rw [if_pos hk]
        have hlt : a - f < ps.length := by omega
        rw [List.getElem?_eq_getElem hlt]
        refine ⟨_, congrArg some (Prod.ext ?_ rfl)⟩
        simp only [putH_fst]
        unfold leafP prAt
        rw [List.getD_eq_getElem?_getD, List.getElem?_eq_getElem hlt]; rfl
      · have hF : FT ps qs f a n k = (none, k) := by unfold FT; rw [if_neg ho, if_neg h1]
        have h2 : 2 ≤ n := by omega
        have hs := split_lt h2
        have hp := split_pos n
        rw [tree_more hF h2, spanC_two ho h2]
        dsimp only
        have i1 := ih _ hs a k (l.take (splitN n)) c hp hk
        generalize treeD (FT ps qs f) a (splitN n) k = u at *
        by_cases hu : u.2 ≤ qs.length
        · rw [if_pos hu] at i1
          obtain ⟨c1, e1⟩ := i1
          rw [e1]
          have i2 := ih (n - splitN n) (by omega) (a + splitN n) u.2 (l.drop (splitN n)) c1 (by omega) hu
          generalize treeD (FT ps qs f) (a + splitN n) (n - splitN n) u.2 = v at *
          by_cases hv : v.2 ≤ qs.length
          · rw [if_pos hv] at i2
            obtain ⟨c2, e2⟩ := i2
            rw [if_pos hv]
            simp only [Option.bind_some, e2, Option.map_some, putH_fst]
            exact ⟨_, rfl⟩
          · rw [if_neg hv] at i2
            rw [if_neg hv]
            simp only [Option.bind_some, i2, Option.map_none]
        · rw [if_neg hu] at i1
          have := tree_up ps qs f (n - splitN n) (a + splitN n) u.2
          rw [if_neg (by omega), i1]; rfl
end Go.Proofs.YtcdocklbpfdmeaaDoor
