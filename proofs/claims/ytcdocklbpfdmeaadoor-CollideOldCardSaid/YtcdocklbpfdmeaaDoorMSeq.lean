import Derived.Test.YtcdocklbpfdmeaaDoorMDraw
import Derived.OrdersHeld
import Derived.Test.YtcdocklbpfdmeaaDoorMOpen
import Derived.Test.YtcdocklbpfdmeaaDoorMCoS
import Derived.Shelf.RegionOpenPlain

/- A region that draws its order, walked in one order at one world: what looks sees what the region began with; what is made may turn what the region itself has made. Over whatever program. -/
set_option linter.unusedSimpArgs false
set_option linter.unusedVariables false
set_option maxRecDepth 20000
namespace Go.Proofs.YtcdocklbpfdmeaaDoor
open Go.RowKit
theorem ex_drewL {w W : World} (h : Ex w W) : Ex w.drew W := by obtain ⟨X, rfl⟩ := h; exact ⟨X, rfl⟩
/-- What a growing row leaves, as what lies behind. -/
theorem exOf {A w w1 : World} (k : Ex A w) (hbe : Below A.heap.size w w1) : ∃ X, w1 = wx A X := ex_of_below ((ex_below k).trans hbe)
section
variable {P : Program} {ops : Array Oper} {Q : Exit → Act → World → Prop} {md : Region.Mode}
def wpSeq (P : Program) (ops : Array Oper) (Q : Exit → Act → World → Prop) (A : World) : List (Oper × Bool) → Act → World → Prop
  | [], a, w => Q .normal a w
  | (o, true) :: r, a, w => if Region.wanted o (yielded ops a.tmps) then o.quiet P a (Ex A) (fun a' => wpSeq P ops Q A r a' w) else wpSeq P ops Q A r (a.put o.dst undef) w
  | (o, false) :: r, a, w => if Region.wanted o (yielded ops a.tmps) then (o.wp P a w (fun a' w' => Ex A w' ∧ wpSeq P ops Q A r a' w') Q ∨ (o.asks P a w ∧ LetsOut Q)) else wpSeq P ops Q A r (a.put o.dst undef) w
theorem wpSeq_look {A : World} {o : Oper} {r : List (Oper × Bool)} {a : Act} {w : World}
    (h : wpQuiet P ops (fun w' => ∃ X, w' = wx A X) (fun a' => wpSeq P ops Q A r a' w) [o] a) : wpSeq P ops Q A ((o, true) :: r) a w := h
theorem wpSeq_eff {A : World} {o : Oper} {r : List (Oper × Bool)} {a : Act} {w : World} (hw : Region.wanted o (yielded ops a.tmps) = true)
    (h : wpList P ops (MixQ Q (wpSeq P ops Q A r) A) [{ o with guard := none }] a w) : wpSeq P ops Q A ((o, false) :: r) a w := by
  unfold wpSeq
  rw [if_pos hw]
  unfold wpList at h
  rw [if_pos (by simp [Region.wanted])] at h
  rcases h with h | ⟨h1, h2⟩
  · exact .inl (mixQ_wp (Oper.wp_mono (fun a' w' h' => h') h))
  · exact .inr ⟨h1, h2⟩
theorem wpSeq_effF {A : World} {o : Oper} {r : List (Oper × Bool)} {a : Act} {w : World} (hw : Region.wanted o (yielded ops a.tmps) = false)
    (h : wpSeq P ops Q A r (a.put o.dst undef) w) : wpSeq P ops Q A ((o, false) :: r) a w := by
  unfold wpSeq
  rw [hw]
  exact h
theorem wpSeq_nil {A : World} {a : Act} {w : World} (h : Q .normal a w) : wpSeq P ops Q A [] a w := h
def seqOk (md : Region.Mode) (ops : Array Oper) : List (Nat × Bool) → Array Bool → Bool
  | [], listed => Region.ready md ops listed == []
  | (i, look) :: r, listed => (Region.ready md ops listed).contains i && (if look then Region.free md ops listed i && ((ops[i]?).map (fun o => isLook o.op)).getD false else Region.ready md ops listed == [i]) &&
      seqOk md ops r (listed.setIfInBounds i true)
theorem wpAnyH_seq {A : World} (hsel : Region.noSelect ops = true) (hQ : ∀ c a d v w, Q (.panic c) (a.put d v) w → Q (.panic c) a w) :
    ∀ (l : List (Nat × Bool)) (m : List (Oper × Bool)) (listed : Array Bool) (a : Act) (w : World), l.map (fun x => (ops[x.1]?, x.2)) = m.map (fun x => (some x.1, x.2)) → seqOk md ops l listed = true → Ex A w →
      wpSeq P ops Q A m a w → wpAnyH P md ops Q (Ex A) l.length listed a w := by
  intro l
  induction l with
  | nil =>
    intro m listed a w hm hB hA h
    cases m with
    | nil => exact wpAnyH_done (by simpa [seqOk] using hB) h _
    | cons x m => cases hm
  | cons x l ih =>
    intro m listed a w hm hB hA h
    obtain ⟨i, look⟩ := x
    cases m with
    | nil => cases hm
    | cons y m =>
      obtain ⟨o, look'⟩ := y
      simp only [List.map_cons, List.cons.injEq, Prod.mk.injEq] at hm
      obtain ⟨⟨ho, rfl⟩, hm⟩ := hm
      simp only [seqOk, Bool.and_eq_true] at hB
      obtain ⟨⟨hr, hk⟩, hB'⟩ := hB
      cases look with
      | true =>
        simp only [if_true, Bool.and_eq_true] at hk
        obtain ⟨hf, hl⟩ := hk
        have hl' : isLook o.op = true := by simpa [ho] using hl
        have hst : ∃ v, YieldsIf P ops (Ex A) o v a ∧ wpSeq P ops Q A m (a.put o.dst v) w := by
          unfold wpSeq at h
          by_cases hw : Region.wanted o (yielded ops a.tmps) = true
          · rw [if_pos hw] at h
            obtain ⟨v, h1, h2⟩ := h
            refine ⟨v, .inl ⟨hw, fun w' hw' => ?_⟩, h2⟩
            have h3 := h1 w' hw'
            unfold Oper.quietAt at h3
            cases hrun : (execOp a.eval o).run P w' with
            | ok x w1 =>
              obtain ⟨u, rfl⟩ := look_value hl' a.eval w' x w1 hrun
              rw [hrun] at h3
              simp only [Oper.quietUpon] at h3
              rw [h3.1, h3.2]
            | halt x w1 => rw [hrun] at h3; exact h3.elim
          · rw [if_neg hw] at h
            exact ⟨undef, .inr ⟨by simpa using hw, rfl⟩, h⟩
        obtain ⟨v, hy, hK⟩ := hst
        exact wpAnyH_take ho hsel hf hr (fun c a w => hQ c a _ _ w) hy hA (ih m _ _ _ hm hB' hA hK)
      | false =>
        simp only [Bool.false_eq_true, if_false, beq_iff_eq] at hk
        refine wpAnyH_all hk (by simp) fun j hj => ?_
        have hji : j = i := by simpa using hj
        subst hji
        unfold wpSeq at h
        unfold wpOp
        simp only [ho]
        by_cases hw : Region.wanted o (yielded ops a.tmps) = true
        · rw [if_pos hw] at h ⊢
          rcases h with h | h
          · exact .inl (Oper.wp_mono (fun a' w' h' => ⟨h'.1, ih m _ _ _ hm hB' h'.1 h'.2⟩) h)
          · exact .inr h
        · rw [if_neg hw] at h ⊢
          exact ⟨hA, ih m _ _ _ hm hB' hA h⟩
/-- **One order serves every order**, at one world. -/
theorem wp_region_seq {id : Nat} {a : Act} {w : World} {l : List Oper} (order : List (Nat × Bool)) (hm : P.follows .mixedOrders = true)
    (hB : (Region.noSelect l.toArray && order.length == l.toArray.size && order.all (fun x => decide (x.1 < l.length)) && seqOk .any l.toArray order (Array.replicate l.toArray.size false)) = true)
    (hQ : ∀ c a d v w, Q (.panic c) (a.put d v) w → Q (.panic c) a w)
    (h : wpSeq P l.toArray Q w.drew (order.map fun x => (nth l x.1, x.2)) a w.drew) : (Code.region id l.toArray true).wp P Q a w := by
  simp only [Bool.and_eq_true, beq_iff_eq, List.all_eq_true, decide_eq_true_eq] at hB
  obtain ⟨⟨⟨hsel, hlen⟩, hall⟩, hseq⟩ := hB
  refine wp_region_held (S := Ex w.drew) hm ?_
  have H := wpAnyH_seq (md := .any) (P := P) (A := w.drew) hsel hQ order (order.map fun x => (nth l x.1, x.2)) (Array.replicate l.toArray.size false) a w.drew (by
    simp only [List.map_map]
    refine List.map_congr_left fun x hx => ?_
    simp only [Function.comp, Prod.mk.injEq, and_true]
    exact nth_get l x.1 (hall x hx)) hseq (ex_refl _) h
  rwa [hlen] at H
/-- The same, over an elder world. -/
theorem wp_region_seqA {id : Nat} {a : Act} {w : World} {l : List Oper} (A : World) (order : List (Nat × Bool)) (hA : Ex A w.drew) (hm : P.follows .mixedOrders = true)
    (hB : (Region.noSelect l.toArray && order.length == l.toArray.size && order.all (fun x => decide (x.1 < l.length)) && seqOk .any l.toArray order (Array.replicate l.toArray.size false)) = true)
    (hQ : ∀ c a d v w, Q (.panic c) (a.put d v) w → Q (.panic c) a w)
    (h : wpSeq P l.toArray Q A (order.map fun x => (nth l x.1, x.2)) a w.drew) : (Code.region id l.toArray true).wp P Q a w := by
  simp only [Bool.and_eq_true, beq_iff_eq, List.all_eq_true, decide_eq_true_eq] at hB
  obtain ⟨⟨⟨hsel, hlen⟩, hall⟩, hseq⟩ := hB
  refine wp_region_held (S := Ex A) hm ?_
  have H := wpAnyH_seq (md := .any) (P := P) (A := A) hsel hQ order (order.map fun x => (nth l x.1, x.2)) (Array.replicate l.toArray.size false) a w.drew (by
    simp only [List.map_map]
    refine List.map_congr_left fun x hx => ?_
    simp only [Function.comp, Prod.mk.injEq, and_true]
    exact nth_get l x.1 (hall x hx)) hseq hA h
  rwa [hlen] at H
end
end Go.Proofs.YtcdocklbpfdmeaaDoor

/- Node, Leaf of both texts. -/
set_option linter.unusedSimpArgs false
set_option linter.unusedVariables false
set_option maxRecDepth 20000
namespace Go.Proofs.YtcdocklbpfdmeaaDoor
open Go.RowKit
set_option maxHeartbeats 1000000 in
theorem node_any {w : World} (G : Glob w) (a b : Dg) : ∀ w', Ex w w' →
    Calls Tryd.prog 123 #[.agg (rowB 32 (dF a)), .agg (rowB 32 (dF b))] w' (Post w' (.agg (rowB 32 (dF (nodeD a b))))) := by
  intro w' k
  replace G := G.ex k
  clear k
  go_enter Tryd.func123, Tryd.ntmps123
  go_wp2
  refine wp_region_mix [(1, true), (2, true), (0, false), (3, false), (4, false), (5, false)] 6 (by kernel_rfl) (by kernel_rfl) (fun _ _ d _ _ h => by cases d <;> exact h) ?_
  simp only [List.map_cons, List.map_nil, nth, List.drop_succ_cons, List.drop_zero]
  repeat (first | (refine wpMix_look ?_; go_big_quiet_step (fail); refine wpQuiet_nil ?_) | (refine wpMix_eff rfl (fun X1 => ?_); go_wp2_with (first | (go_at_call 145; refine (concat3 (by (try show Ex _ _); repeat (first | (with_reducible exact ex_refl _) | (with_reducible assumption) | (with_reducible refine ex_drewL ?_) | (with_reducible refine ex_appR ?_ _) | (with_reducible refine ex_wx ?_ _) | (with_reducible refine ex_drew ?_) | (with_reducible refine ex_alloc ?_ _))) (by simp [go_sem]) (sls_one 1 (by (try show Ex _ _); repeat (first | (with_reducible exact ex_refl _) | (with_reducible assumption) | (with_reducible refine ex_drewL ?_) | (with_reducible refine ex_appR ?_ _) | (with_reducible refine ex_wx ?_ _) | (with_reducible refine ex_drew ?_) | (with_reducible refine ex_alloc ?_ _))) (by simp [go_sem]) (by rfl)) (sls_dg a (by (try show Ex _ _); repeat (first | (with_reducible exact ex_refl _) | (with_reducible assumption) | (with_reducible refine ex_drewL ?_) | (with_reducible refine ex_appR ?_ _) | (with_reducible refine ex_wx ?_ _) | (with_reducible refine ex_drew ?_) | (with_reducible refine ex_alloc ?_ _))) (by simp [go_sem])) (sls_dg b (by (try show Ex _ _); repeat (first | (with_reducible exact ex_refl _) | (with_reducible assumption) | (with_reducible refine ex_drewL ?_) | (with_reducible refine ex_appR ?_ _) | (with_reducible refine ex_wx ?_ _) | (with_reducible refine ex_drew ?_) | (with_reducible refine ex_alloc ?_ _))) (by simp [go_sem])) (by simp [bytesD_len])).mono ?_; rintro e w2 ⟨v, rfl, hsl, X, rfl⟩; (try simp only [wx_wx] at hsl)) | (go_at_call 84; refine (sum_slt G (by (try show Ex _ _); repeat (first | (with_reducible exact ex_refl _) | (with_reducible assumption) | (with_reducible refine ex_drewL ?_) | (with_reducible refine ex_appR ?_ _) | (with_reducible refine ex_wx ?_ _) | (with_reducible refine ex_drew ?_) | (with_reducible refine ex_alloc ?_ _))) (hsl.ex (by (try show Ex _ _); repeat (first | (with_reducible exact ex_refl _) | (with_reducible assumption) | (with_reducible refine ex_drewL ?_) | (with_reducible refine ex_appR ?_ _) | (with_reducible refine ex_wx ?_ _) | (with_reducible refine ex_drew ?_) | (with_reducible refine ex_alloc ?_ _)))) (by simp [bytesD_len])).mono ?_; rintro e w2 ⟨rfl, X, rfl⟩)); refine mixQ_mk (by first | exact ex_refl _ | exact ⟨_, rfl⟩ | exact ex_app _ _ _ | (simp only [wx_wx, wx_drew]; first | exact ex_refl _ | exact ex_app _ _ _ | exact ⟨_, rfl⟩) | (repeat (first | exact ex_refl _ | refine ex_drew ?_ | refine ex_alloc ?_ _ | refine ex_wx ?_ _))) ?_))
  refine wpMix_nil (fun X2 => ?_)
  go_wp2
  all_goals first | (exfalso; omega) | exact ret_row (cs := rowB 32 (dF (nodeD a b))) Tryd.results123 Tryd.underlying46 rfl info_id rfl (by simp [go_sem]; repeat (first | rw [if_pos (by omega)] | rw [if_neg (by omega)]); rfl) rfl (post_mk rfl (by (try show Ex _ _); repeat (first | (with_reducible exact ex_refl _) | (with_reducible assumption) | (with_reducible refine ex_drewL ?_) | (with_reducible refine ex_appR ?_ _) | (with_reducible refine ex_wx ?_ _) | (with_reducible refine ex_drew ?_) | (with_reducible refine ex_alloc ?_ _))))
theorem owns_one {w w2 : World} {Z : Nat} (b : UInt8) {z : Int} {v : Value} (k : Ex (w.alloc (.cells #[.int .u8 z] 5)) w2) (hv : v = .slice (some ⟨w.heap.size, 0, none⟩) 1 1) (hz : z = bn b) (hZ : Z ≤ w.heap.size) : w2.ownsRow Z 5 1 v 1 (Lib.byteCells [b]) := by
  subst hz hv
  exact owns_ex (owns_new rfl hZ (by omega) (by decide) rfl rfl) k
abbrev w3 (w : World) (a b : Dg) : World := ((w.alloc (.cells (rowB 32 (dF a)) 46)).alloc (.cells (rowB 32 (dF b)) 46)).alloc (.cells (rowB 32 fun _ => 0) 46)
set_option maxHeartbeats 1000000 in
theorem leaf_any {v : Value} {l : List UInt8} (hl : l.length ≤ 100000) (w : World) (hv : SlS w v l) (G : Glob w) :
    Calls Tryd.prog 47 #[v] w (Post w (.agg (rowB 32 (dF (leafD l))))) := by
  go_enter Tryd.func47, Tryd.ntmps47
  go_wp2_with (first | (at_builtin; refine wpAppB _ _ rfl rfl (owns_one (Z := (w.alloc (.cells (rowB 32 fun _ => 0) 46)).heap.size) 0 (by (try show Ex _ _); repeat (first | (with_reducible exact ex_refl _) | (with_reducible assumption) | (with_reducible refine ex_drewL ?_) | (with_reducible refine ex_appR ?_ _) | (with_reducible refine ex_wx ?_ _) | (with_reducible refine ex_drew ?_) | (with_reducible refine ex_alloc ?_ _))) (by simp [go_sem]) (by rfl) (by simp [go_sem])) rfl rfl (hv.ex (by (try show Ex _ _); repeat (first | (with_reducible exact ex_refl _) | (with_reducible assumption) | (with_reducible refine ex_drewL ?_) | (with_reducible refine ex_appR ?_ _) | (with_reducible refine ex_wx ?_ _) | (with_reducible refine ex_drew ?_) | (with_reducible refine ex_alloc ?_ _)))) (by omega) (by simp [go_sem]) (fun v1 w1 hown hbe => ?_); obtain ⟨X1, rfl⟩ := exOf (A := w.alloc (.cells (rowB 32 fun _ => 0) 46)) (by (try show Ex _ _); repeat (first | (with_reducible exact ex_refl _) | (with_reducible assumption) | (with_reducible refine ex_drewL ?_) | (with_reducible refine ex_appR ?_ _) | (with_reducible refine ex_wx ?_ _) | (with_reducible refine ex_drew ?_) | (with_reducible refine ex_alloc ?_ _))) hbe) | (go_at_call 84; refine (sum_slt G (by (try show Ex _ _); repeat (first | (with_reducible exact ex_refl _) | (with_reducible assumption) | (with_reducible refine ex_drewL ?_) | (with_reducible refine ex_appR ?_ _) | (with_reducible refine ex_wx ?_ _) | (with_reducible refine ex_drew ?_) | (with_reducible refine ex_alloc ?_ _))) (owns_slt hown) (by simp; omega)).mono ?_; rintro e w2 ⟨rfl, X, rfl⟩))
  exact ret_row (cs := rowB 32 (dF (leafD l))) Tryd.results47 Tryd.underlying46 rfl info_id rfl (by simp [go_sem]; unfold leafD; simp) rfl (post_mk rfl (by (try show Ex _ _); repeat (first | (with_reducible exact ex_refl _) | (with_reducible assumption) | (with_reducible refine ex_drewL ?_) | (with_reducible refine ex_appR ?_ _) | (with_reducible refine ex_wx ?_ _) | (with_reducible refine ex_drew ?_) | (with_reducible refine ex_alloc ?_ _))))
end Go.Proofs.YtcdocklbpfdmeaaDoor

/- Collide: widths; digests of a width, of both texts. -/
set_option linter.unusedSimpArgs false
set_option linter.unusedVariables false
set_option linter.unnecessarySimpa false
set_option maxRecDepth 20000
namespace Go.Proofs.YtcdocklbpfdmeaaDoor
open Go.RowKit
def wideB (n : Int) : Bool := decide (0 ≤ n ∧ n ≤ 256)
theorem wide_any (n : Int) (w : World) : Calls Tryd.prog 60 #[I n] w (Post w (.bool (wideB n))) := by
  by_cases h1 : 0 ≤ n
  · by_cases h2 : n ≤ 256
    · have hb : wideB n = true := decide_eq_true ⟨h1, h2⟩
      have t1 : decide (0 ≤ n) = true := decide_eq_true h1
      have t2 : decide (n ≤ 256) = true := decide_eq_true h2
      rw [hb]
      clear hb
      go_enter Tryd.func60, Tryd.ntmps60
      go_wp2
      go_ret
      exact post_mk rfl (by (try show Ex _ _); repeat (first | (with_reducible exact ex_refl _) | (with_reducible assumption) | (with_reducible refine ex_drewL ?_) | (with_reducible refine ex_appR ?_ _) | (with_reducible refine ex_wx ?_ _) | (with_reducible refine ex_drew ?_) | (with_reducible refine ex_alloc ?_ _)))
    · have hb : wideB n = false := decide_eq_false (by omega)
      have t1 : decide (0 ≤ n) = true := decide_eq_true h1
      have t2 : decide (n ≤ 256) = false := decide_eq_false h2
      rw [hb]
      clear hb
      go_enter Tryd.func60, Tryd.ntmps60
      go_wp2
      go_ret
      exact post_mk rfl (by (try show Ex _ _); repeat (first | (with_reducible exact ex_refl _) | (with_reducible assumption) | (with_reducible refine ex_drewL ?_) | (with_reducible refine ex_appR ?_ _) | (with_reducible refine ex_wx ?_ _) | (with_reducible refine ex_drew ?_) | (with_reducible refine ex_alloc ?_ _)))
  · have hb : wideB n = false := decide_eq_false (by omega)
    have t1 : decide (0 ≤ n) = false := decide_eq_false h1
    rw [hb]
    clear hb
    go_enter Tryd.func60, Tryd.ntmps60
    go_wp2
    go_ret
    exact post_mk rfl (by (try show Ex _ _); repeat (first | (with_reducible exact ex_refl _) | (with_reducible assumption) | (with_reducible refine ex_drewL ?_) | (with_reducible refine ex_appR ?_ _) | (with_reducible refine ex_wx ?_ _) | (with_reducible refine ex_drew ?_) | (with_reducible refine ex_alloc ?_ _)))
theorem refwide_any (n : Int) (w : World) : Calls Tryd.prog 25 #[I n] w (Post w (.bool (wideB n))) := by
  by_cases h1 : 0 ≤ n
  · by_cases h2 : n ≤ 256
    · have hb : wideB n = true := decide_eq_true ⟨h1, h2⟩
      have t1 : decide (0 ≤ n) = true := decide_eq_true h1
      have t2 : decide (n ≤ 256) = true := decide_eq_true h2
      rw [hb]
      clear hb
      go_enter Tryd.func25, Tryd.ntmps25
      go_wp2
      go_ret
      exact post_mk rfl (by (try show Ex _ _); repeat (first | (with_reducible exact ex_refl _) | (with_reducible assumption) | (with_reducible refine ex_drewL ?_) | (with_reducible refine ex_appR ?_ _) | (with_reducible refine ex_wx ?_ _) | (with_reducible refine ex_drew ?_) | (with_reducible refine ex_alloc ?_ _)))
    · have hb : wideB n = false := decide_eq_false (by omega)
      have t1 : decide (0 ≤ n) = true := decide_eq_true h1
      have t2 : decide (n ≤ 256) = false := decide_eq_false h2
      rw [hb]
      clear hb
      go_enter Tryd.func25, Tryd.ntmps25
      go_wp2
      go_ret
      exact post_mk rfl (by (try show Ex _ _); repeat (first | (with_reducible exact ex_refl _) | (with_reducible assumption) | (with_reducible refine ex_drewL ?_) | (with_reducible refine ex_appR ?_ _) | (with_reducible refine ex_wx ?_ _) | (with_reducible refine ex_drew ?_) | (with_reducible refine ex_alloc ?_ _)))
  · have hb : wideB n = false := decide_eq_false (by omega)
    have t1 : decide (0 ≤ n) = false := decide_eq_false h1
    rw [hb]
    clear hb
    go_enter Tryd.func25, Tryd.ntmps25
    go_wp2
    go_ret
    exact post_mk rfl (by (try show Ex _ _); repeat (first | (with_reducible exact ex_refl _) | (with_reducible assumption) | (with_reducible refine ex_drewL ?_) | (with_reducible refine ex_appR ?_ _) | (with_reducible refine ex_wx ?_ _) | (with_reducible refine ex_drew ?_) | (with_reducible refine ex_alloc ?_ _)))
theorem lawwide_any (n : Int) (w : World) : Calls Tryd.prog 22 #[I n] w (Post w (.bool (wideB n))) := by
  by_cases h1 : 0 ≤ n
  · by_cases h2 : n ≤ 256
    · have hb : wideB n = true := decide_eq_true ⟨h1, h2⟩
      have t1 : decide (0 ≤ n) = true := decide_eq_true h1
      have t2 : decide (n ≤ 256) = true := decide_eq_true h2
      rw [hb]
      clear hb
      go_enter Tryd.func22, Tryd.ntmps22
      go_wp2
      go_ret
      exact post_mk rfl (by (try show Ex _ _); repeat (first | (with_reducible exact ex_refl _) | (with_reducible assumption) | (with_reducible refine ex_drewL ?_) | (with_reducible refine ex_appR ?_ _) | (with_reducible refine ex_wx ?_ _) | (with_reducible refine ex_drew ?_) | (with_reducible refine ex_alloc ?_ _)))
    · have hb : wideB n = false := decide_eq_false (by omega)
      have t1 : decide (0 ≤ n) = true := decide_eq_true h1
      have t2 : decide (n ≤ 256) = false := decide_eq_false h2
      rw [hb]
      clear hb
      go_enter Tryd.func22, Tryd.ntmps22
      go_wp2
      go_ret
      exact post_mk rfl (by (try show Ex _ _); repeat (first | (with_reducible exact ex_refl _) | (with_reducible assumption) | (with_reducible refine ex_drewL ?_) | (with_reducible refine ex_appR ?_ _) | (with_reducible refine ex_wx ?_ _) | (with_reducible refine ex_drew ?_) | (with_reducible refine ex_alloc ?_ _)))
  · have hb : wideB n = false := decide_eq_false (by omega)
    have t1 : decide (0 ≤ n) = false := decide_eq_false h1
    rw [hb]
    clear hb
    go_enter Tryd.func22, Tryd.ntmps22
    go_wp2
    go_ret
    exact post_mk rfl (by (try show Ex _ _); repeat (first | (with_reducible exact ex_refl _) | (with_reducible assumption) | (with_reducible refine ex_drewL ?_) | (with_reducible refine ex_appR ?_ _) | (with_reducible refine ex_wx ?_ _) | (with_reducible refine ex_drew ?_) | (with_reducible refine ex_alloc ?_ _)))
theorem and_lowF : ∀ (s : Fin 8) (x : Fin 256), 0 < s.val → bits BinOp.and IntKind.u8 (bn (UInt8.ofNat x.val)) (255 * 2 ^ (8 - s.val) % 256) = bn (lowB s.val (UInt8.ofNat x.val)) := by decide +kernel
theorem and_lowB {n k : Nat} {x : UInt8} (h1 : 8 * k < n) (h2 : n < 8 * k + 8) : bits BinOp.and IntKind.u8 (bn x) (255 * 2 ^ (8 * k + 8 - n) % 256) = bn (lowB (n - 8 * k) x) := by
  have := and_lowF ⟨n - 8 * k, by omega⟩ ⟨x.toNat, x.toNat_lt⟩ (by simp; omega)
  simp only [UInt8.ofNat_toNat] at this
  rwa [show 8 - (n - 8 * k) = 8 * k + 8 - n by omega] at this
/-- The program's digest, where k bytes are done. -/
def lowK (n : Nat) (d : Dg) (k : Nat) : Nat → UInt8 := fun j => if j < k then lowB (n - 8 * j) (dF d j) else dF d j
theorem lowK_all (n : Nat) (d : Dg) : rowB 32 (lowK n d 32) = rowB 32 (dF (widD n d)) := rowB_congr fun i hi => by
  unfold lowK widD
  rw [if_pos hi, dF_ofF _ _ hi]
theorem lowK_keep {n : Nat} {d : Dg} {k : Nat} (h : lowB (n - 8 * k) (dF d k) = dF d k) : lowK n d (k + 1) = lowK n d k := by
  funext j
  unfold lowK
  by_cases h1 : j < k
  · rw [if_pos (by omega), if_pos h1]
  · by_cases h2 : j = k
    · subst h2; rw [if_pos (by omega), if_neg h1, h]
    · rw [if_neg (by omega), if_neg h1]
theorem lowK_upd {n : Nat} {d : Dg} {k : Nat} {x : UInt8} (h : lowB (n - 8 * k) (dF d k) = x) : upd (lowK n d k) k x = lowK n d (k + 1) := by
  funext j
  simp only [lowK, upd]
  by_cases h1 : j = k
  · subst h1; rw [if_pos rfl, if_pos (by omega), h]
  · rw [if_neg h1]
    by_cases h2 : j < k
    · rw [if_pos h2, if_pos (by omega)]
    · rw [if_neg h2, if_neg (by omega)]
theorem lowK_at (n : Nat) (d : Dg) (k : Nat) : lowK n d k k = dF d k := by unfold lowK; rw [if_neg (by omega)]
set_option maxHeartbeats 1000000 in
theorem wsum_any {w0 : World} (G : Glob w0) (n : Nat) (hn : n ≤ 256) {v : Value} {l : List UInt8} {w : World} (k0 : Ex w0 w) (hs : SlT w v l) (h48 : l.length ≤ 1000000) :
    Calls Tryd.prog 61 #[I n, v] w (Post w (.agg (rowB 32 (dF (sumW n l))))) := by
  have HS : Hid (∀ w', Ex w w' → Calls Tryd.prog 84 #[v] w' (Post w' (.agg (rowB 32 (dF (sumD l)))))) := Lib.hid fun w' k => sum_slt G (ex_trans k0 k) (hs.ex k) (by omega)
  unfold sumW
  generalize sumD l = d at HS ⊢
  clear G k0 hs h48
  go_enter Tryd.func61, Tryd.ntmps61
  go_wp2_with (go_at_call 84; (with_reducible refine (HS.out _ (by (try show Ex _ _); repeat (first | (with_reducible exact ex_refl _) | (with_reducible assumption) | (with_reducible refine ex_drewL ?_) | (with_reducible refine ex_appR ?_ _) | (with_reducible refine ex_wx ?_ _) | (with_reducible refine ex_drew ?_) | (with_reducible refine ex_alloc ?_ _)))).mono ?_); rintro e w2 ⟨rfl, ⟨bl, dr⟩, rfl⟩)
  go_loopw [11] (fun i W => ∃ k dr : Nat, k ≤ 32 ∧ i = I k ∧ W = (wx (w.alloc (.cells (rowB 32 fun _ => 0) 46)) ⟨bl, dr⟩).alloc (.cells (rowB 32 (lowK n d k)) 46)) (fun i _ => 32 - (intOf i).toNat)
  case atStart => exact ⟨0, dr, by omega, rfl, by rfl⟩
  case round =>
    obtain ⟨k, dr2, hk, rfl, rfl⟩ := hrel
    by_cases hlt : k < 32
    · have hlt2 : (k : Int) < 32 := by omega
      have hat := lowK_at n d k
      by_cases hA : n ≤ 8 * k
      · have hA2 : (n : Int) ≤ 8 * k := by omega
        have hx : upd (lowK n d k) k 0 = lowK n d (k + 1) := lowK_upd (by unfold lowB; rw [if_pos (by omega)])
        clear HS hat
        go_wp2
        refine ⟨⟨k + 1, dr2, by omega, by go_num, ?_⟩, by simp [intOf]; omega⟩
        have e0 : (rowB 32 (lowK n d k)).setIfInBounds k (.int .u8 0) = rowB 32 (upd (lowK n d k) k 0) := rowB_set 32 _ k 0
        rw [e0, hx]
      · have hA2 : ¬ (n : Int) ≤ 8 * k := by omega
        by_cases hB : n < 8 * k + 8
        · have hB2 : (n : Int) < 8 * k + 8 := by omega
          have hB3 : ¬ (8 * (k : Int) + 8 - n < 0) := by omega
          clear HS
          have mixed : Tryd.prog.follows .mixedOrders = true := by kernel_rfl
          go_wp2
          go_big_region_o
          go_wp2
          refine ⟨⟨k + 1, dr2 + 1, by omega, by go_num, ?_⟩, by simp [intOf]; omega⟩
          rw [and_lowB (by omega) (by omega)]
          have e0 : (rowB 32 (lowK n d k)).setIfInBounds k (.int .u8 (bn (lowB (n - 8 * k) (dF d k)))) = rowB 32 (upd (lowK n d k) k (lowB (n - 8 * k) (dF d k))) := rowB_set 32 _ k _
          rw [e0, lowK_upd rfl]
          rfl
        · have hB2 : ¬ (n : Int) < 8 * k + 8 := by omega
          clear HS
          have hx := lowK_keep (n := n) (d := d) (k := k) (by unfold lowB; rw [if_neg (by omega), if_neg (by omega)])
          go_wp2
          refine ⟨⟨k + 1, dr2, by omega, by go_num, ?_⟩, by simp [intOf]; omega⟩
          rw [hx]
    · obtain rfl : k = 32 := by omega
      rw [lowK_all]
      clear HS hlt hk
      go_wp2
      exact ret_row (cs := rowB 32 (dF (widD n d))) Tryd.results61 Tryd.underlying46 rfl info_id rfl (by simp [go_sem]; omega) rfl (post_mk rfl (by (try show Ex _ _); repeat (first | (with_reducible exact ex_refl _) | (with_reducible assumption) | (with_reducible refine ex_drewL ?_) | (with_reducible refine ex_appR ?_ _) | (with_reducible refine ex_wx ?_ _) | (with_reducible refine ex_drew ?_) | (with_reducible refine ex_alloc ?_ _))))
theorem bit_testF : ∀ (r : Fin 8) (x : Fin 256), (bits BinOp.and IntKind.u8 (bn (UInt8.ofNat x.val)) (128 / 2 ^ r.val) != 0) = decide (UInt8.ofNat x.val &&& (128 >>> UInt8.ofNat r.val) ≠ 0) := by decide +kernel
theorem bit_subF : ∀ (r : Fin 8) (x : Fin 256), (bn (UInt8.ofNat x.val) - 128 / 2 ^ r.val) % 256 = bn (UInt8.ofNat x.val - (128 >>> UInt8.ofNat r.val)) := by decide +kernel
theorem bit_test (r : Nat) (h : r < 8) (x : UInt8) : (bits BinOp.and IntKind.u8 (bn x) (128 / 2 ^ r) != 0) = decide (x &&& (128 >>> UInt8.ofNat r) ≠ 0) := by
  have := bit_testF ⟨r, h⟩ ⟨x.toNat, x.toNat_lt⟩
  simpa only [UInt8.ofNat_toNat] using this
theorem bit_sub (r : Nat) (h : r < 8) (x : UInt8) : (bn x - 128 / 2 ^ r) % 256 = bn (x - (128 >>> UInt8.ofNat r)) := by
  have := bit_subF ⟨r, h⟩ ⟨x.toNat, x.toNat_lt⟩
  simpa only [UInt8.ofNat_toNat] using this
set_option maxHeartbeats 1000000 in
theorem digest_any (n : Nat) (hn : n ≤ 256) {v : Value} {l : List UInt8} {w : World} (hs : SlT w v l) (h48 : l.length ≤ 1000000) :
    Calls Tryd.prog 26 #[I n, v] w (Post w (.agg (rowB 32 (dF (sumW n l))))) := by
  have HS : Hid (∀ w', Ex w w' → Calls Tryd.prog 70 #[v] w' (Post w' (.agg (rowB 32 (dF (sumD l)))))) := Lib.hid fun w' k => refsum_slt (hs.ex k) (by omega)
  unfold sumW
  generalize sumD l = d at HS ⊢
  clear hs h48
  have h0 : rowB 32 (dF d) = rowB 32 (midD n n d) := rowB_congr fun i hi => (mid_start n d i).symm
  go_enter Tryd.func26, Tryd.ntmps26
  go_wp2_with (go_at_call 70; (with_reducible refine (HS.out _ (by (try show Ex _ _); repeat (first | (with_reducible exact ex_refl _) | (with_reducible assumption) | (with_reducible refine ex_drewL ?_) | (with_reducible refine ex_appR ?_ _) | (with_reducible refine ex_wx ?_ _) | (with_reducible refine ex_drew ?_) | (with_reducible refine ex_alloc ?_ _)))).mono ?_); rintro e w2 ⟨rfl, ⟨bl, dr⟩, rfl⟩)
  go_loopw [6] (fun i W => ∃ k dr : Nat, n ≤ k ∧ k ≤ 256 ∧ i = I k ∧ W = (wx (w.alloc (.cells (rowB 32 fun _ => 0) 46)) ⟨bl, dr⟩).alloc (.cells (rowB 32 (midD n k d)) 46)) (fun i _ => 256 - (intOf i).toNat)
  case atStart => exact ⟨n, dr, Nat.le_refl _, hn, rfl, by rw [← h0]⟩
  case round =>
    clear HS h0
    obtain ⟨k, dr2, hnk, hk, rfl, rfl⟩ := hrel
    by_cases hlt : k < 256
    · have hlt2 : (k : Int) < 256 := by omega
      have hd : (k : Int).tdiv 8 = ((k / 8 : Nat) : Int) := by rw [Int.tdiv_eq_ediv_of_nonneg (by omega)]; omega
      have hr : (k : Int).tmod 8 = ((k % 8 : Nat) : Int) := by rw [Int.tmod_eq_emod_of_nonneg (by omega)]; omega
      have hstep := mid_step d hnk
      generalize hx : midD n k d (k / 8) = x
      have hbt := bit_test (k % 8) (Nat.mod_lt _ (by omega)) x
      have hbs := Lib.hid (bit_sub (k % 8) (Nat.mod_lt _ (by omega)) x)
      by_cases hb : x &&& (128 >>> UInt8.ofNat (k % 8)) ≠ 0
      · rw [decide_eq_true hb] at hbt
        have hx2 : rowB 32 (upd (midD n k d) (k / 8) (x - (128 >>> UInt8.ofNat (k % 8)))) = rowB 32 (midD n (k + 1) d) := rowB_congr fun j _ => by
          rw [hstep j]
          unfold upd
          split
          · rename_i e; subst e; unfold clr1; rw [hx, if_pos hb]
          · rfl
        replace hx2 := Lib.hid hx2
        clear hstep hb
        go_wp2
        refine ⟨⟨k + 1, dr2, by omega, by omega, by go_num, ?_⟩, by simp [intOf]; omega⟩
        rw [← hx2.out]
        refine (congrArg (fun z => World.alloc _ (.cells (Array.setIfInBounds _ _ (.int .u8 z)) _)) hbs.out).trans ?_
        exact congrArg (fun r => World.alloc _ (.cells r _)) (rowB_set 32 _ _ _)
      · rw [decide_eq_false hb] at hbt
        have hx2 : rowB 32 (midD n k d) = rowB 32 (midD n (k + 1) d) := rowB_congr fun j _ => by
          rw [hstep j]
          split
          · rename_i e; subst e; unfold clr1; rw [hx, if_neg hb]
          · rfl
        replace hx2 := Lib.hid hx2
        clear hstep hb
        go_wp2
        refine ⟨⟨k + 1, dr2, by omega, by omega, by go_num, ?_⟩, by simp [intOf]; omega⟩
        rw [hx2.out]
    · obtain rfl : k = 256 := by omega
      have he : rowB 32 (midD n 256 d) = rowB 32 (dF (widD n d)) := rowB_congr fun i hi => mid_end n d hi
      rw [he]
      clear hlt hk he
      go_wp2
      exact ret_row (cs := rowB 32 (dF (widD n d))) Tryd.results26 Tryd.underlying46 rfl info_id rfl (by simp [go_sem]; omega) rfl (post_mk rfl (by (try show Ex _ _); repeat (first | (with_reducible exact ex_refl _) | (with_reducible assumption) | (with_reducible refine ex_drewL ?_) | (with_reducible refine ex_appR ?_ _) | (with_reducible refine ex_wx ?_ _) | (with_reducible refine ex_drew ?_) | (with_reducible refine ex_alloc ?_ _))))
end Go.Proofs.YtcdocklbpfdmeaaDoor
