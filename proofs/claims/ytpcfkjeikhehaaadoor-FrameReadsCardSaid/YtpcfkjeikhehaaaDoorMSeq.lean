import Derived.Test.YtpcfkjeikhehaaaDoorMDraw
import Derived.OrdersHeld
import Derived.Test.YtpcfkjeikhehaaaDoorMSumR

/- A region that draws its order, walked in one order at one world: what looks sees what the region began with; what is made may turn what the region itself has made. Over whatever program. -/
set_option linter.unusedSimpArgs false
set_option linter.unusedVariables false
set_option maxRecDepth 20000
namespace Go.Proofs.YtpcfkjeikhehaaaDoor
open Go.RowKit
theorem ex_drewL {w W : World} (h : Ex w W) : Ex w.drew W := by obtain ⟨X, rfl⟩ := h; exact ⟨X, rfl⟩
/-- What a growing row leaves, as what lies behind. -/
theorem exOf {A w w1 : World} (k : Ex A w) (hbe : Below A.heap.size w w1) : ∃ X, w1 = wx A X := ex_of_below ((ex_below k).trans hbe)
section
variable {P : Program} {ops : Array Oper} {Q : Exit → Act → World → Prop} {md : Region.Mode}
def wpSeq (P : Program) (ops : Array Oper) (Q : Exit → Act → World → Prop) (A : World) : List (Oper × Bool) → Act → World → Prop
  | [], a, w => Q .normal a w
  | (o, true) :: r, a, w => if Region.wanted o (yielded ops a.tmps) then o.quiet P a (Ex A) (fun a' => wpSeq P ops Q A r a' w) else wpSeq P ops Q A r (a.put o.dst undef) w
  | (o, false) :: r, a, w => if Region.wanted o (yielded ops a.tmps) then (o.wp P a w (fun a' w' => Ex A w' ∧ wpSeq P ops Q A r a' w') Q ∨ (o.asks P a w ∧ LetsOut Q)) else wpSeq P ops Q A r (a.put o.dst undef) w
theorem wpSeq_look {A : World} {o : Oper} {r : List (Oper × Bool)} {a : Act} {w : World}
    (h : wpQuiet P ops (fun w' => ∃ X, w' = wx A X) (fun a' => wpSeq P ops Q A r a' w) [o] a) : wpSeq P ops Q A ((o, true) :: r) a w := h
theorem wpSeq_eff {A : World} {o : Oper} {r : List (Oper × Bool)} {a : Act} {w : World} (hw : Region.wanted o (yielded ops a.tmps) = true)
    (h : wpList P ops (MixQ Q (wpSeq P ops Q A r) A) [{ o with guard := none }] a w) : wpSeq P ops Q A ((o, false) :: r) a w := by
  unfold wpSeq
  rw [if_pos hw]
  unfold wpList at h
  rw [if_pos (by simp [Region.wanted])] at h
  rcases h with h | ⟨h1, h2⟩
  · exact .inl (mixQ_wp (Oper.wp_mono (fun a' w' h' => h') h))
  · exact .inr ⟨h1, h2⟩
theorem wpSeq_effF {A : World} {o : Oper} {r : List (Oper × Bool)} {a : Act} {w : World} (hw : Region.wanted o (yielded ops a.tmps) = false)
    (h : wpSeq P ops Q A r (a.put o.dst undef) w) : wpSeq P ops Q A ((o, false) :: r) a w := by
  unfold wpSeq
  rw [hw]
  exact h
theorem wpSeq_nil {A : World} {a : Act} {w : World} (h : Q .normal a w) : wpSeq P ops Q A [] a w := h
def seqOk (md : Region.Mode) (ops : Array Oper) : List (Nat × Bool) → Array Bool → Bool
  | [], listed => Region.ready md ops listed == []
  | (i, look) :: r, listed => (Region.ready md ops listed).contains i && (if look then Region.free md ops listed i && ((ops[i]?).map (fun o => isLook o.op)).getD false else Region.ready md ops listed == [i]) &&
      seqOk md ops r (listed.setIfInBounds i true)
theorem wpAnyH_seq {A : World} (hsel : Region.noSelect ops = true) (hQ : ∀ c a d v w, Q (.panic c) (a.put d v) w → Q (.panic c) a w) :
    ∀ (l : List (Nat × Bool)) (m : List (Oper × Bool)) (listed : Array Bool) (a : Act) (w : World), l.map (fun x => (ops[x.1]?, x.2)) = m.map (fun x => (some x.1, x.2)) → seqOk md ops l listed = true → Ex A w →
      wpSeq P ops Q A m a w → wpAnyH P md ops Q (Ex A) l.length listed a w := by
  intro l
  induction l with
  | nil =>
    intro m listed a w hm hB hA h
    cases m with
    | nil => exact wpAnyH_done (by simpa [seqOk] using hB) h _
    | cons x m => cases hm
  | cons x l ih =>
    intro m listed a w hm hB hA h
    obtain ⟨i, look⟩ := x
    cases m with
    | nil => cases hm
    | cons y m =>
      obtain ⟨o, look'⟩ := y
      simp only [List.map_cons, List.cons.injEq, Prod.mk.injEq] at hm
      obtain ⟨⟨ho, rfl⟩, hm⟩ := hm
      simp only [seqOk, Bool.and_eq_true] at hB
      obtain ⟨⟨hr, hk⟩, hB'⟩ := hB
      cases look with
      | true =>
        simp only [if_true, Bool.and_eq_true] at hk
        obtain ⟨hf, hl⟩ := hk
        have hl' : isLook o.op = true := by simpa [ho] using hl
        have hst : ∃ v, YieldsIf P ops (Ex A) o v a ∧ wpSeq P ops Q A m (a.put o.dst v) w := by
          unfold wpSeq at h
          by_cases hw : Region.wanted o (yielded ops a.tmps) = true
          · rw [if_pos hw] at h
            obtain ⟨v, h1, h2⟩ := h
            refine ⟨v, .inl ⟨hw, fun w' hw' => ?_⟩, h2⟩
            have h3 := h1 w' hw'
            unfold Oper.quietAt at h3
            cases hrun : (execOp a.eval o).run P w' with
            | ok x w1 =>
              obtain ⟨u, rfl⟩ := look_value hl' a.eval w' x w1 hrun
              rw [hrun] at h3
              simp only [Oper.quietUpon] at h3
              rw [h3.1, h3.2]
            | halt x w1 => rw [hrun] at h3; exact h3.elim
          · rw [if_neg hw] at h
            exact ⟨undef, .inr ⟨by simpa using hw, rfl⟩, h⟩
        obtain ⟨v, hy, hK⟩ := hst
        exact wpAnyH_take ho hsel hf hr (fun c a w => hQ c a _ _ w) hy hA (ih m _ _ _ hm hB' hA hK)
      | false =>
        simp only [Bool.false_eq_true, if_false, beq_iff_eq] at hk
        refine wpAnyH_all hk (by simp) fun j hj => ?_
        have hji : j = i := by simpa using hj
        subst hji
        unfold wpSeq at h
        unfold wpOp
        simp only [ho]
        by_cases hw : Region.wanted o (yielded ops a.tmps) = true
        · rw [if_pos hw] at h ⊢
          rcases h with h | h
          · exact .inl (Oper.wp_mono (fun a' w' h' => ⟨h'.1, ih m _ _ _ hm hB' h'.1 h'.2⟩) h)
          · exact .inr h
        · rw [if_neg hw] at h ⊢
          exact ⟨hA, ih m _ _ _ hm hB' hA h⟩
/-- **One order serves every order**, at one world. -/
theorem wp_region_seq {id : Nat} {a : Act} {w : World} {l : List Oper} (order : List (Nat × Bool)) (hm : P.follows .mixedOrders = true)
    (hB : (Region.noSelect l.toArray && order.length == l.toArray.size && order.all (fun x => decide (x.1 < l.length)) && seqOk .any l.toArray order (Array.replicate l.toArray.size false)) = true)
    (hQ : ∀ c a d v w, Q (.panic c) (a.put d v) w → Q (.panic c) a w)
    (h : wpSeq P l.toArray Q w.drew (order.map fun x => (nth l x.1, x.2)) a w.drew) : (Code.region id l.toArray true).wp P Q a w := by
  simp only [Bool.and_eq_true, beq_iff_eq, List.all_eq_true, decide_eq_true_eq] at hB
  obtain ⟨⟨⟨hsel, hlen⟩, hall⟩, hseq⟩ := hB
  refine wp_region_held (S := Ex w.drew) hm ?_
  have H := wpAnyH_seq (md := .any) (P := P) (A := w.drew) hsel hQ order (order.map fun x => (nth l x.1, x.2)) (Array.replicate l.toArray.size false) a w.drew (by
    simp only [List.map_map]
    refine List.map_congr_left fun x hx => ?_
    simp only [Function.comp, Prod.mk.injEq, and_true]
    exact nth_get l x.1 (hall x hx)) hseq (ex_refl _) h
  rwa [hlen] at H
/-- The same, over an elder world. -/
theorem wp_region_seqA {id : Nat} {a : Act} {w : World} {l : List Oper} (A : World) (order : List (Nat × Bool)) (hA : Ex A w.drew) (hm : P.follows .mixedOrders = true)
    (hB : (Region.noSelect l.toArray && order.length == l.toArray.size && order.all (fun x => decide (x.1 < l.length)) && seqOk .any l.toArray order (Array.replicate l.toArray.size false)) = true)
    (hQ : ∀ c a d v w, Q (.panic c) (a.put d v) w → Q (.panic c) a w)
    (h : wpSeq P l.toArray Q A (order.map fun x => (nth l x.1, x.2)) a w.drew) : (Code.region id l.toArray true).wp P Q a w := by
  simp only [Bool.and_eq_true, beq_iff_eq, List.all_eq_true, decide_eq_true_eq] at hB
  obtain ⟨⟨⟨hsel, hlen⟩, hall⟩, hseq⟩ := hB
  refine wp_region_held (S := Ex A) hm ?_
  have H := wpAnyH_seq (md := .any) (P := P) (A := A) hsel hQ order (order.map fun x => (nth l x.1, x.2)) (Array.replicate l.toArray.size false) a w.drew (by
    simp only [List.map_map]
    refine List.map_congr_left fun x hx => ?_
    simp only [Function.comp, Prod.mk.injEq, and_true]
    exact nth_get l x.1 (hall x hx)) hseq hA h
  rwa [hlen] at H
end
end Go.Proofs.YtpcfkjeikhehaaaDoor

/- Are bytes, are numbers the same? -/
set_option linter.unusedSimpArgs false
set_option linter.unusedVariables false
set_option maxRecDepth 20000
namespace Go.Proofs.YtpcfkjeikhehaaaDoor
open Go.RowKit
/-- A slice that reads as a list of numbers. -/
structure SlI (w : World) (a : Option Addr) (l : List Int) : Prop where
  out : l = [] ∨ ∃ g off, a = some ⟨g, off, none⟩ ∧ g < w.heap.size ∧ ∀ i x, l[i]? = some x → w.cell? ⟨g, off + i, none⟩ = some (I x)
theorem SlI.ex {w w' : World} {a : Option Addr} {l : List Int} (h : SlI w a l) (k : Ex w w') : SlI w' a l := by
  obtain ⟨X, rfl⟩ := k
  rcases h.out with h | ⟨g, off, h1, h2, h3⟩
  · exact ⟨Or.inl h⟩
  · exact ⟨Or.inr ⟨g, off, h1, by rw [wx_size]; omega, fun i x hx => by rw [wx_cell w X _ h2]; exact h3 i x hx⟩⟩
structure SlZ (w : World) (v : Value) (l : List Int) : Prop where
  out : ∃ a c, v = .slice a l.length c ∧ l.length ≤ c ∧ c ≤ maxLen ∧ (a = none → c = 0) ∧ SlI w a l
theorem SlZ.ex {w w' : World} {v : Value} {l : List Int} (h : SlZ w v l) (k : Ex w w') : SlZ w' v l := by
  obtain ⟨a, c, h1, h2, h3, h4, h5⟩ := h.out
  exact ⟨a, c, h1, h2, h3, h4, h5.ex k⟩
def inAt (l : List Int) (i : Nat) : Int := l.getD i 0
theorem inAt_get {l : List Int} {i : Nat} (h : i < l.length) : l[i]? = some (inAt l i) := by
  unfold inAt; rw [List.getD_eq_getElem?_getD, List.getElem?_eq_getElem h]; rfl
theorem gF_get {l : List UInt8} {i : Nat} (h : i < l.length) : l[i]? = some (gF l i) := by
  unfold gF; rw [List.getD_eq_getElem?_getD, List.getElem?_eq_getElem h]; rfl
theorem SlI.row {w : World} {a : Option Addr} {l : List Int} (h : SlI w a l) {i : Nat} (hi : i < l.length) : ∃ g off, a = some ⟨g, off, none⟩ ∧ g < w.heap.size ∧ w.cell? ⟨g, off + i, none⟩ = some (I (inAt l i)) := by
  rcases h.out with rfl | ⟨g, off, h1, h2, h3⟩
  · simp at hi
  · exact ⟨g, off, h1, h2, h3 i _ (inAt_get hi)⟩
theorem SlL.row {w : World} {a : Option Addr} {l : List UInt8} (h : SlL w a l) {i : Nat} (hi : i < l.length) : ∃ g off, a = some ⟨g, off, none⟩ ∧ g < w.heap.size ∧ w.cell? ⟨g, off + i, none⟩ = some (B (gF l i)) := by
  obtain ⟨g, off, h1, h2, h3⟩ := SlB.pos h (by omega)
  exact ⟨g, off, h1, h2, h3 i hi⟩
theorem gF_ext {l m : List UInt8} (hl : l.length = m.length) (h : ∀ i, i < l.length → gF l i = gF m i) : l = m := by
  apply List.ext_getElem?
  intro i
  by_cases hi : i < l.length
  · rw [gF_get hi, gF_get (by omega), h i hi]
  · rw [List.getElem?_eq_none (by omega), List.getElem?_eq_none (by omega)]
theorem inAt_ext {l m : List Int} (hl : l.length = m.length) (h : ∀ i, i < l.length → inAt l i = inAt m i) : l = m := by
  apply List.ext_getElem?
  intro i
  by_cases hi : i < l.length
  · rw [inAt_get hi, inAt_get (by omega), h i hi]
  · rw [List.getElem?_eq_none (by omega), List.getElem?_eq_none (by omega)]
theorem sameL_any (l m : List UInt8) (v u : Value) (w : World) (hs : SlT w v l) (ht : SlT w u m) :
    Calls Tryd.prog 10 #[v, u] w (Post w (.bool (decide (l = m)))) := by
  obtain ⟨a, c, rfl, hc, hcm, _, hs⟩ := hs.out
  obtain ⟨b, d, rfl, hd, hdm, _, ht⟩ := ht.out
  by_cases hlm : l.length = m.length
  · have HS : Hid (∀ W, Ex w W → ∀ i, i < m.length → ∃ g off, a = some ⟨g, off, none⟩ ∧ g < W.heap.size ∧ W.cell? ⟨g, off + i, none⟩ = some (B (gF l i))) := Lib.hid fun W k i hi => (hs.ex k).row (by omega)
    have HT : Hid (∀ W, Ex w W → ∀ i, i < m.length → ∃ g off, b = some ⟨g, off, none⟩ ∧ g < W.heap.size ∧ W.cell? ⟨g, off + i, none⟩ = some (B (gF m i))) := Lib.hid fun W k i hi => (ht.ex k).row hi
    have H1 : Hid ((∀ i, i < m.length → gF l i = gF m i) → decide (l = m) = true) := Lib.hid fun h => decide_eq_true (gF_ext hlm (by rw [hlm]; exact h))
    have H0 : Hid (∀ i, i < m.length → gF l i ≠ gF m i → decide (l = m) = false) := Lib.hid fun i hi h => decide_eq_false fun e => h (by rw [e])
    rw [hlm] at hc ⊢
    generalize decide (l = m) = ov at H0 H1 ⊢
    generalize m.length = n at *
    generalize gF l = p at HS H0 H1
    generalize gF m = q at HT H0 H1
    clear hlm hs ht
    unfold maxLen at hcm hdm
    go_enter Tryd.func10, Tryd.ntmps10
    go_wp2
    go_loopw [13] (fun i wr => ∃ k : Nat, k ≤ n ∧ i = I k ∧ Hid (∀ i, i < k → p i = q i) ∧ Ex w wr) (fun i _ => n - (intOf i).toNat)
    case atStart => exact ⟨0, by omega, rfl, Lib.hid (fun i hi => absurd hi (by omega)), (by (try show Ex _ _); repeat (first | (with_reducible exact ex_refl _) | (with_reducible assumption) | (with_reducible refine ex_drewL ?_) | (with_reducible refine ex_appR ?_ _) | (with_reducible refine ex_wx ?_ _) | (with_reducible refine ex_drew ?_) | (with_reducible refine ex_alloc ?_ _)))⟩
    case round =>
      obtain ⟨k, hk, rfl, HK, kr⟩ := hrel
      by_cases hlt : k < n
      · obtain ⟨g, off, rfl, r1, r2⟩ := HS.out wr kr k hlt
        obtain ⟨g', off', rfl, s1, s2⟩ := HT.out wr kr k hlt
        have H0k := Lib.hid (H0.out k hlt)
        have HKn : Hid (p k = q k → ∀ i, i < k + 1 → p i = q i) := Lib.hid fun h i hi => by
          rcases Nat.lt_or_ge i k with h2 | h2
          · exact HK.out i h2
          · obtain rfl : i = k := by omega
            exact h
        clear H0 H1 HS HT HK
        generalize p k = pk at *
        generalize q k = qk at *
        by_cases he : pk = qk
        · subst he
          have HK3 := Lib.hid (HKn.out rfl)
          clear HKn H0k
          go_wp2
          refine wp_region_seq [(0, true), (1, true), (2, true), (3, true), (4, true), (5, true), (6, true), (7, true), (8, true)] (by kernel_rfl) (by kernel_rfl) (fun _ _ d _ _ h => by cases d <;> exact h) ?_
          simp only [List.map_cons, List.map_nil, nth]
          repeat (first | ((with_reducible refine wpSeq_look ?_); go_big_quiet_step (fail); (with_reducible refine wpQuiet_nil ?_)) | ((with_reducible refine wpSeq_effF ?_ ?_); (focus rfl); go_simp) | ((with_reducible refine wpSeq_eff ?_ ?_); (focus rfl); (try dsimp only); go_wp2_with (fail); refine mixQ_mk (by (try show Ex _ _); repeat (first | (with_reducible exact ex_refl _) | (with_reducible assumption) | (with_reducible refine ex_drewL ?_) | (with_reducible refine ex_appR ?_ _) | (with_reducible refine ex_wx ?_ _) | (with_reducible refine ex_drew ?_) | (with_reducible refine ex_alloc ?_ _))) ?_))
          refine wpSeq_nil ?_
          go_wp2
          refine ⟨⟨k + 1, by omega, by go_num, HK3, (by (try show Ex _ _); repeat (first | (with_reducible exact ex_refl _) | (with_reducible assumption) | (with_reducible refine ex_drewL ?_) | (with_reducible refine ex_appR ?_ _) | (with_reducible refine ex_wx ?_ _) | (with_reducible refine ex_drew ?_) | (with_reducible refine ex_alloc ?_ _)))⟩, by simp [intOf]; omega⟩
        · have hb : (bn pk == bn qk) = false := beq_eq_false_iff_ne.2 fun e => he (by first | exact bn_inj e | exact e)
          obtain rfl := H0k.out he
          clear HKn H0k
          go_wp2
          refine wp_region_seq [(0, true), (1, true), (2, true), (3, true), (4, true), (5, true), (6, true), (7, true), (8, true)] (by kernel_rfl) (by kernel_rfl) (fun _ _ d _ _ h => by cases d <;> exact h) ?_
          simp only [List.map_cons, List.map_nil, nth]
          repeat (first | ((with_reducible refine wpSeq_look ?_); go_big_quiet_step (fail); (with_reducible refine wpQuiet_nil ?_)) | ((with_reducible refine wpSeq_effF ?_ ?_); (focus rfl); go_simp) | ((with_reducible refine wpSeq_eff ?_ ?_); (focus rfl); (try dsimp only); go_wp2_with (fail); refine mixQ_mk (by (try show Ex _ _); repeat (first | (with_reducible exact ex_refl _) | (with_reducible assumption) | (with_reducible refine ex_drewL ?_) | (with_reducible refine ex_appR ?_ _) | (with_reducible refine ex_wx ?_ _) | (with_reducible refine ex_drew ?_) | (with_reducible refine ex_alloc ?_ _))) ?_))
          refine wpSeq_nil ?_
          go_wp2
          go_ret
          exact post_mk rfl (by (try show Ex _ _); repeat (first | (with_reducible exact ex_refl _) | (with_reducible assumption) | (with_reducible refine ex_drewL ?_) | (with_reducible refine ex_appR ?_ _) | (with_reducible refine ex_wx ?_ _) | (with_reducible refine ex_drew ?_) | (with_reducible refine ex_alloc ?_ _)))
      · obtain rfl : k = n := by omega
        obtain rfl := H1.out HK.out
        clear hlt hk H0 HS HT
        go_wp2
        go_ret
        exact post_mk rfl (by (try show Ex _ _); repeat (first | (with_reducible exact ex_refl _) | (with_reducible assumption) | (with_reducible refine ex_drewL ?_) | (with_reducible refine ex_appR ?_ _) | (with_reducible refine ex_wx ?_ _) | (with_reducible refine ex_drew ?_) | (with_reducible refine ex_alloc ?_ _)))
  · have e1 : decide (l = m) = false := decide_eq_false fun e => hlm (by rw [e])
    rw [e1]
    have e2 : ((l.length : Int) == m.length) = false := beq_eq_false_iff_ne.2 (by omega)
    generalize l.length = n1 at *
    generalize m.length = n2 at *
    clear hs ht e1
    go_enter Tryd.func10, Tryd.ntmps10
    go_wp2
    go_ret
    exact post_mk rfl (by (try show Ex _ _); repeat (first | (with_reducible exact ex_refl _) | (with_reducible assumption) | (with_reducible refine ex_drewL ?_) | (with_reducible refine ex_appR ?_ _) | (with_reducible refine ex_wx ?_ _) | (with_reducible refine ex_drew ?_) | (with_reducible refine ex_alloc ?_ _)))
theorem equalL_any (l m : List UInt8) (v u : Value) (w : World) (hs : SlT w v l) (ht : SlT w u m) :
    Calls Tryd.prog 66 #[v, u] w (Post w (.bool (decide (l = m)))) := by
  obtain ⟨a, c, rfl, hc, hcm, _, hs⟩ := hs.out
  obtain ⟨b, d, rfl, hd, hdm, _, ht⟩ := ht.out
  by_cases hlm : l.length = m.length
  · have HS : Hid (∀ W, Ex w W → ∀ i, i < m.length → ∃ g off, a = some ⟨g, off, none⟩ ∧ g < W.heap.size ∧ W.cell? ⟨g, off + i, none⟩ = some (B (gF l i))) := Lib.hid fun W k i hi => (hs.ex k).row (by omega)
    have HT : Hid (∀ W, Ex w W → ∀ i, i < m.length → ∃ g off, b = some ⟨g, off, none⟩ ∧ g < W.heap.size ∧ W.cell? ⟨g, off + i, none⟩ = some (B (gF m i))) := Lib.hid fun W k i hi => (ht.ex k).row hi
    have H1 : Hid ((∀ i, i < m.length → gF l i = gF m i) → decide (l = m) = true) := Lib.hid fun h => decide_eq_true (gF_ext hlm (by rw [hlm]; exact h))
    have H0 : Hid (∀ i, i < m.length → gF l i ≠ gF m i → decide (l = m) = false) := Lib.hid fun i hi h => decide_eq_false fun e => h (by rw [e])
    rw [hlm] at hc ⊢
    generalize decide (l = m) = ov at H0 H1 ⊢
    generalize m.length = n at *
    generalize gF l = p at HS H0 H1
    generalize gF m = q at HT H0 H1
    clear hlm hs ht
    unfold maxLen at hcm hdm
    go_enter Tryd.func66, Tryd.ntmps66
    go_wp2
    go_loopw [13] (fun i wr => ∃ k : Nat, k ≤ n ∧ i = I k ∧ Hid (∀ i, i < k → p i = q i) ∧ Ex w wr) (fun i _ => n - (intOf i).toNat)
    case atStart => exact ⟨0, by omega, rfl, Lib.hid (fun i hi => absurd hi (by omega)), (by (try show Ex _ _); repeat (first | (with_reducible exact ex_refl _) | (with_reducible assumption) | (with_reducible refine ex_drewL ?_) | (with_reducible refine ex_appR ?_ _) | (with_reducible refine ex_wx ?_ _) | (with_reducible refine ex_drew ?_) | (with_reducible refine ex_alloc ?_ _)))⟩
    case round =>
      obtain ⟨k, hk, rfl, HK, kr⟩ := hrel
      by_cases hlt : k < n
      · obtain ⟨g, off, rfl, r1, r2⟩ := HS.out wr kr k hlt
        obtain ⟨g', off', rfl, s1, s2⟩ := HT.out wr kr k hlt
        have H0k := Lib.hid (H0.out k hlt)
        have HKn : Hid (p k = q k → ∀ i, i < k + 1 → p i = q i) := Lib.hid fun h i hi => by
          rcases Nat.lt_or_ge i k with h2 | h2
          · exact HK.out i h2
          · obtain rfl : i = k := by omega
            exact h
        clear H0 H1 HS HT HK
        generalize p k = pk at *
        generalize q k = qk at *
        by_cases he : pk = qk
        · subst he
          have HK3 := Lib.hid (HKn.out rfl)
          clear HKn H0k
          go_wp2
          refine wp_region_seq [(0, true), (1, true), (2, true), (3, true), (4, true), (5, true), (6, true), (7, true), (8, true)] (by kernel_rfl) (by kernel_rfl) (fun _ _ d _ _ h => by cases d <;> exact h) ?_
          simp only [List.map_cons, List.map_nil, nth]
          repeat (first | ((with_reducible refine wpSeq_look ?_); go_big_quiet_step (fail); (with_reducible refine wpQuiet_nil ?_)) | ((with_reducible refine wpSeq_effF ?_ ?_); (focus rfl); go_simp) | ((with_reducible refine wpSeq_eff ?_ ?_); (focus rfl); (try dsimp only); go_wp2_with (fail); refine mixQ_mk (by (try show Ex _ _); repeat (first | (with_reducible exact ex_refl _) | (with_reducible assumption) | (with_reducible refine ex_drewL ?_) | (with_reducible refine ex_appR ?_ _) | (with_reducible refine ex_wx ?_ _) | (with_reducible refine ex_drew ?_) | (with_reducible refine ex_alloc ?_ _))) ?_))
          refine wpSeq_nil ?_
          go_wp2
          refine ⟨⟨k + 1, by omega, by go_num, HK3, (by (try show Ex _ _); repeat (first | (with_reducible exact ex_refl _) | (with_reducible assumption) | (with_reducible refine ex_drewL ?_) | (with_reducible refine ex_appR ?_ _) | (with_reducible refine ex_wx ?_ _) | (with_reducible refine ex_drew ?_) | (with_reducible refine ex_alloc ?_ _)))⟩, by simp [intOf]; omega⟩
        · have hb : (bn pk == bn qk) = false := beq_eq_false_iff_ne.2 fun e => he (by first | exact bn_inj e | exact e)
          obtain rfl := H0k.out he
          clear HKn H0k
          go_wp2
          refine wp_region_seq [(0, true), (1, true), (2, true), (3, true), (4, true), (5, true), (6, true), (7, true), (8, true)] (by kernel_rfl) (by kernel_rfl) (fun _ _ d _ _ h => by cases d <;> exact h) ?_
          simp only [List.map_cons, List.map_nil, nth]
          repeat (first | ((with_reducible refine wpSeq_look ?_); go_big_quiet_step (fail); (with_reducible refine wpQuiet_nil ?_)) | ((with_reducible refine wpSeq_effF ?_ ?_); (focus rfl); go_simp) | ((with_reducible refine wpSeq_eff ?_ ?_); (focus rfl); (try dsimp only); go_wp2_with (fail); refine mixQ_mk (by (try show Ex _ _); repeat (first | (with_reducible exact ex_refl _) | (with_reducible assumption) | (with_reducible refine ex_drewL ?_) | (with_reducible refine ex_appR ?_ _) | (with_reducible refine ex_wx ?_ _) | (with_reducible refine ex_drew ?_) | (with_reducible refine ex_alloc ?_ _))) ?_))
          refine wpSeq_nil ?_
          go_wp2
          go_ret
          exact post_mk rfl (by (try show Ex _ _); repeat (first | (with_reducible exact ex_refl _) | (with_reducible assumption) | (with_reducible refine ex_drewL ?_) | (with_reducible refine ex_appR ?_ _) | (with_reducible refine ex_wx ?_ _) | (with_reducible refine ex_drew ?_) | (with_reducible refine ex_alloc ?_ _)))
      · obtain rfl : k = n := by omega
        obtain rfl := H1.out HK.out
        clear hlt hk H0 HS HT
        go_wp2
        go_ret
        exact post_mk rfl (by (try show Ex _ _); repeat (first | (with_reducible exact ex_refl _) | (with_reducible assumption) | (with_reducible refine ex_drewL ?_) | (with_reducible refine ex_appR ?_ _) | (with_reducible refine ex_wx ?_ _) | (with_reducible refine ex_drew ?_) | (with_reducible refine ex_alloc ?_ _)))
  · have e1 : decide (l = m) = false := decide_eq_false fun e => hlm (by rw [e])
    rw [e1]
    have e2 : ((l.length : Int) == m.length) = false := beq_eq_false_iff_ne.2 (by omega)
    generalize l.length = n1 at *
    generalize m.length = n2 at *
    clear hs ht e1
    go_enter Tryd.func66, Tryd.ntmps66
    go_wp2
    go_ret
    exact post_mk rfl (by (try show Ex _ _); repeat (first | (with_reducible exact ex_refl _) | (with_reducible assumption) | (with_reducible refine ex_drewL ?_) | (with_reducible refine ex_appR ?_ _) | (with_reducible refine ex_wx ?_ _) | (with_reducible refine ex_drew ?_) | (with_reducible refine ex_alloc ?_ _)))
theorem equalI_any (l m : List Int) (v u : Value) (w : World) (hs : SlZ w v l) (ht : SlZ w u m) :
    Calls Tryd.prog 44 #[v, u] w (Post w (.bool (decide (l = m)))) := by
  obtain ⟨a, c, rfl, hc, hcm, _, hs⟩ := hs.out
  obtain ⟨b, d, rfl, hd, hdm, _, ht⟩ := ht.out
  by_cases hlm : l.length = m.length
  · have HS : Hid (∀ W, Ex w W → ∀ i, i < m.length → ∃ g off, a = some ⟨g, off, none⟩ ∧ g < W.heap.size ∧ W.cell? ⟨g, off + i, none⟩ = some (I (inAt l i))) := Lib.hid fun W k i hi => (hs.ex k).row (by omega)
    have HT : Hid (∀ W, Ex w W → ∀ i, i < m.length → ∃ g off, b = some ⟨g, off, none⟩ ∧ g < W.heap.size ∧ W.cell? ⟨g, off + i, none⟩ = some (I (inAt m i))) := Lib.hid fun W k i hi => (ht.ex k).row hi
    have H1 : Hid ((∀ i, i < m.length → inAt l i = inAt m i) → decide (l = m) = true) := Lib.hid fun h => decide_eq_true (inAt_ext hlm (by rw [hlm]; exact h))
    have H0 : Hid (∀ i, i < m.length → inAt l i ≠ inAt m i → decide (l = m) = false) := Lib.hid fun i hi h => decide_eq_false fun e => h (by rw [e])
    rw [hlm] at hc ⊢
    generalize decide (l = m) = ov at H0 H1 ⊢
    generalize m.length = n at *
    generalize inAt l = p at HS H0 H1
    generalize inAt m = q at HT H0 H1
    clear hlm hs ht
    unfold maxLen at hcm hdm
    go_enter Tryd.func44, Tryd.ntmps44
    go_wp2
    go_loopw [13] (fun i wr => ∃ k : Nat, k ≤ n ∧ i = I k ∧ Hid (∀ i, i < k → p i = q i) ∧ Ex w wr) (fun i _ => n - (intOf i).toNat)
    case atStart => exact ⟨0, by omega, rfl, Lib.hid (fun i hi => absurd hi (by omega)), (by (try show Ex _ _); repeat (first | (with_reducible exact ex_refl _) | (with_reducible assumption) | (with_reducible refine ex_drewL ?_) | (with_reducible refine ex_appR ?_ _) | (with_reducible refine ex_wx ?_ _) | (with_reducible refine ex_drew ?_) | (with_reducible refine ex_alloc ?_ _)))⟩
    case round =>
      obtain ⟨k, hk, rfl, HK, kr⟩ := hrel
      by_cases hlt : k < n
      · obtain ⟨g, off, rfl, r1, r2⟩ := HS.out wr kr k hlt
        obtain ⟨g', off', rfl, s1, s2⟩ := HT.out wr kr k hlt
        have H0k := Lib.hid (H0.out k hlt)
        have HKn : Hid (p k = q k → ∀ i, i < k + 1 → p i = q i) := Lib.hid fun h i hi => by
          rcases Nat.lt_or_ge i k with h2 | h2
          · exact HK.out i h2
          · obtain rfl : i = k := by omega
            exact h
        clear H0 H1 HS HT HK
        generalize p k = pk at *
        generalize q k = qk at *
        by_cases he : pk = qk
        · subst he
          have HK3 := Lib.hid (HKn.out rfl)
          clear HKn H0k
          go_wp2
          refine wp_region_seq [(0, true), (1, true), (2, true), (3, true), (4, true), (5, true), (6, true), (7, true), (8, true)] (by kernel_rfl) (by kernel_rfl) (fun _ _ d _ _ h => by cases d <;> exact h) ?_
          simp only [List.map_cons, List.map_nil, nth]
          repeat (first | ((with_reducible refine wpSeq_look ?_); go_big_quiet_step (fail); (with_reducible refine wpQuiet_nil ?_)) | ((with_reducible refine wpSeq_effF ?_ ?_); (focus rfl); go_simp) | ((with_reducible refine wpSeq_eff ?_ ?_); (focus rfl); (try dsimp only); go_wp2_with (fail); refine mixQ_mk (by (try show Ex _ _); repeat (first | (with_reducible exact ex_refl _) | (with_reducible assumption) | (with_reducible refine ex_drewL ?_) | (with_reducible refine ex_appR ?_ _) | (with_reducible refine ex_wx ?_ _) | (with_reducible refine ex_drew ?_) | (with_reducible refine ex_alloc ?_ _))) ?_))
          refine wpSeq_nil ?_
          go_wp2
          refine ⟨⟨k + 1, by omega, by go_num, HK3, (by (try show Ex _ _); repeat (first | (with_reducible exact ex_refl _) | (with_reducible assumption) | (with_reducible refine ex_drewL ?_) | (with_reducible refine ex_appR ?_ _) | (with_reducible refine ex_wx ?_ _) | (with_reducible refine ex_drew ?_) | (with_reducible refine ex_alloc ?_ _)))⟩, by simp [intOf]; omega⟩
        · have hb : (id pk == id qk) = false := beq_eq_false_iff_ne.2 fun e => he (by first | exact bn_inj e | exact e)
          obtain rfl := H0k.out he
          clear HKn H0k
          go_wp2
          refine wp_region_seq [(0, true), (1, true), (2, true), (3, true), (4, true), (5, true), (6, true), (7, true), (8, true)] (by kernel_rfl) (by kernel_rfl) (fun _ _ d _ _ h => by cases d <;> exact h) ?_
          simp only [List.map_cons, List.map_nil, nth]
          repeat (first | ((with_reducible refine wpSeq_look ?_); go_big_quiet_step (fail); (with_reducible refine wpQuiet_nil ?_)) | ((with_reducible refine wpSeq_effF ?_ ?_); (focus rfl); go_simp) | ((with_reducible refine wpSeq_eff ?_ ?_); (focus rfl); (try dsimp only); go_wp2_with (fail); refine mixQ_mk (by (try show Ex _ _); repeat (first | (with_reducible exact ex_refl _) | (with_reducible assumption) | (with_reducible refine ex_drewL ?_) | (with_reducible refine ex_appR ?_ _) | (with_reducible refine ex_wx ?_ _) | (with_reducible refine ex_drew ?_) | (with_reducible refine ex_alloc ?_ _))) ?_))
          refine wpSeq_nil ?_
          go_wp2
          go_ret
          exact post_mk rfl (by (try show Ex _ _); repeat (first | (with_reducible exact ex_refl _) | (with_reducible assumption) | (with_reducible refine ex_drewL ?_) | (with_reducible refine ex_appR ?_ _) | (with_reducible refine ex_wx ?_ _) | (with_reducible refine ex_drew ?_) | (with_reducible refine ex_alloc ?_ _)))
      · obtain rfl : k = n := by omega
        obtain rfl := H1.out HK.out
        clear hlt hk H0 HS HT
        go_wp2
        go_ret
        exact post_mk rfl (by (try show Ex _ _); repeat (first | (with_reducible exact ex_refl _) | (with_reducible assumption) | (with_reducible refine ex_drewL ?_) | (with_reducible refine ex_appR ?_ _) | (with_reducible refine ex_wx ?_ _) | (with_reducible refine ex_drew ?_) | (with_reducible refine ex_alloc ?_ _)))
  · have e1 : decide (l = m) = false := decide_eq_false fun e => hlm (by rw [e])
    rw [e1]
    have e2 : ((l.length : Int) == m.length) = false := beq_eq_false_iff_ne.2 (by omega)
    generalize l.length = n1 at *
    generalize m.length = n2 at *
    clear hs ht e1
    go_enter Tryd.func44, Tryd.ntmps44
    go_wp2
    go_ret
    exact post_mk rfl (by (try show Ex _ _); repeat (first | (with_reducible exact ex_refl _) | (with_reducible assumption) | (with_reducible refine ex_drewL ?_) | (with_reducible refine ex_appR ?_ _) | (with_reducible refine ex_wx ?_ _) | (with_reducible refine ex_drew ?_) | (with_reducible refine ex_alloc ?_ _)))
theorem octEqual_any (l m : List UInt8) (v u : Value) (w : World) (hs : SlT w v l) (ht : SlT w u m) :
    Calls Tryd.prog 43 #[v, u] w (Post w (.bool (decide (l = m)))) := by
  go_enter Tryd.func43, Tryd.ntmps43
  go_wp2_with ((with_reducible refine (equalL_any l m v u _ (hs.ex (by (try show Ex _ _); repeat (first | (with_reducible exact ex_refl _) | (with_reducible assumption) | (with_reducible refine ex_drewL ?_) | (with_reducible refine ex_appR ?_ _) | (with_reducible refine ex_wx ?_ _) | (with_reducible refine ex_drew ?_) | (with_reducible refine ex_alloc ?_ _)))) (ht.ex (by (try show Ex _ _); repeat (first | (with_reducible exact ex_refl _) | (with_reducible assumption) | (with_reducible refine ex_drewL ?_) | (with_reducible refine ex_appR ?_ _) | (with_reducible refine ex_wx ?_ _) | (with_reducible refine ex_drew ?_) | (with_reducible refine ex_alloc ?_ _))))).mono ?_); rintro e w2 ⟨rfl, X, rfl⟩)
  go_ret
  exact post_mk rfl (by (try show Ex _ _); repeat (first | (with_reducible exact ex_refl _) | (with_reducible assumption) | (with_reducible refine ex_drewL ?_) | (with_reducible refine ex_appR ?_ _) | (with_reducible refine ex_wx ?_ _) | (with_reducible refine ex_drew ?_) | (with_reducible refine ex_alloc ?_ _)))
end Go.Proofs.YtpcfkjeikhehaaaDoor
