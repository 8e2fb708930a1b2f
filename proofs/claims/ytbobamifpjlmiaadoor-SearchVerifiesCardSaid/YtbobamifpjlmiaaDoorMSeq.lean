import Derived.Test.YtbobamifpjlmiaaDoorMDraw
import Derived.OrdersHeld
import Derived.Test.YtbobamifpjlmiaaDoorMOwn
import Derived.Test.YtbobamifpjlmiaaDoorMSumR
import Derived.Shelf.RegionOpenPlain

/- A region that draws its order, walked in one order at one world: what looks sees what the region began with; what is made may turn what the region itself has made. Over whatever program. -/
set_option linter.unusedSimpArgs false
set_option linter.unusedVariables false
set_option maxRecDepth 20000
namespace Go.Proofs.YtbobamifpjlmiaaDoor
open Go.RowKit
theorem ex_drewL {w W : World} (h : Ex w W) : Ex w.drew W := by obtain ⟨X, rfl⟩ := h; exact ⟨X, rfl⟩
/-- What a growing row leaves, as what lies behind. -/
theorem exOf {A w w1 : World} (k : Ex A w) (hbe : Below A.heap.size w w1) : ∃ X, w1 = wx A X := ex_of_below ((ex_below k).trans hbe)
section
variable {P : Program} {ops : Array Oper} {Q : Exit → Act → World → Prop} {md : Region.Mode}
def wpSeq (P : Program) (ops : Array Oper) (Q : Exit → Act → World → Prop) (A : World) : List (Oper × Bool) → Act → World → Prop
  | [], a, w => Q .normal a w
  | (o, true) :: r, a, w => if Region.wanted o (yielded ops a.tmps) then o.quiet P a (Ex A) (fun a' => wpSeq P ops Q A r a' w) else wpSeq P ops Q A r (a.put o.dst undef) w
  | (o, false) :: r, a, w => if Region.wanted o (yielded ops a.tmps) then (o.wp P a w (fun a' w' => Ex A w' ∧ wpSeq P ops Q A r a' w') Q ∨ (o.asks P a w ∧ LetsOut Q)) else wpSeq P ops Q A r (a.put o.dst undef) w
theorem wpSeq_look {A : World} {o : Oper} {r : List (Oper × Bool)} {a : Act} {w : World}
    (h : wpQuiet P ops (fun w' => ∃ X, w' = wx A X) (fun a' => wpSeq P ops Q A r a' w) [o] a) : wpSeq P ops Q A ((o, true) :: r) a w := h
theorem wpSeq_eff {A : World} {o : Oper} {r : List (Oper × Bool)} {a : Act} {w : World} (hw : Region.wanted o (yielded ops a.tmps) = true)
    (h : wpList P ops (MixQ Q (wpSeq P ops Q A r) A) [{ o with guard := none }] a w) : wpSeq P ops Q A ((o, false) :: r) a w := by
  unfold wpSeq
  rw [if_pos hw]
  unfold wpList at h
  rw [if_pos (by simp [Region.wanted])] at h
  rcases h with h | ⟨h1, h2⟩
  · exact .inl (mixQ_wp (Oper.wp_mono (fun a' w' h' => h') h))
  · exact .inr ⟨h1, h2⟩
theorem wpSeq_effF {A : World} {o : Oper} {r : List (Oper × Bool)} {a : Act} {w : World} (hw : Region.wanted o (yielded ops a.tmps) = false)
    (h : wpSeq P ops Q A r (a.put o.dst undef) w) : wpSeq P ops Q A ((o, false) :: r) a w := by
  unfold wpSeq
  rw [hw]
  exact h
theorem wpSeq_nil {A : World} {a : Act} {w : World} (h : Q .normal a w) : wpSeq P ops Q A [] a w := h
def seqOk (md : Region.Mode) (ops : Array Oper) : List (Nat × Bool) → Array Bool → Bool
  | [], listed => Region.ready md ops listed == []
  | (i, look) :: r, listed => (Region.ready md ops listed).contains i && (if look then Region.free md ops listed i && ((ops[i]?).map (fun o => isLook o.op)).getD false else Region.ready md ops listed == [i]) &&
      seqOk md ops r (listed.setIfInBounds i true)
theorem wpAnyH_seq {A : World} (hsel : Region.noSelect ops = true) (hQ : ∀ c a d v w, Q (.panic c) (a.put d v) w → Q (.panic c) a w) :
    ∀ (l : List (Nat × Bool)) (m : List (Oper × Bool)) (listed : Array Bool) (a : Act) (w : World), l.map (fun x => (ops[x.1]?, x.2)) = m.map (fun x => (some x.1, x.2)) → seqOk md ops l listed = true → Ex A w →
      wpSeq P ops Q A m a w → wpAnyH P md ops Q (Ex A) l.length listed a w := by
  intro l
  induction l with
  | nil =>
    intro m listed a w hm hB hA h
    cases m with
    | nil => exact wpAnyH_done (by simpa [seqOk] using hB) h _
    | cons x m => cases hm
  | cons x l ih =>
    intro m listed a w hm hB hA h
    obtain ⟨i, look⟩ := x
    cases m with
    | nil => cases hm
    | cons y m =>
      obtain ⟨o, look'⟩ := y
      simp only [List.map_cons, List.cons.injEq, Prod.mk.injEq] at hm
      obtain ⟨⟨ho, rfl⟩, hm⟩ := hm
      simp only [seqOk, Bool.and_eq_true] at hB
      obtain ⟨⟨hr, hk⟩, hB'⟩ := hB
      cases look with
      | true =>
        simp only [if_true, Bool.and_eq_true] at hk
        obtain ⟨hf, hl⟩ := hk
        have hl' : isLook o.op = true := by simpa [ho] using hl
        have hst : ∃ v, YieldsIf P ops (Ex A) o v a ∧ wpSeq P ops Q A m (a.put o.dst v) w := by
          unfold wpSeq at h
          by_cases hw : Region.wanted o (yielded ops a.tmps) = true
          · rw [if_pos hw] at h
            obtain ⟨v, h1, h2⟩ := h
            refine ⟨v, .inl ⟨hw, fun w' hw' => ?_⟩, h2⟩
            have h3 := h1 w' hw'
            unfold Oper.quietAt at h3
            cases hrun : (execOp a.eval o).run P w' with
            | ok x w1 =>
              obtain ⟨u, rfl⟩ := look_value hl' a.eval w' x w1 hrun
              rw [hrun] at h3
              simp only [Oper.quietUpon] at h3
              rw [h3.1, h3.2]
            | halt x w1 => rw [hrun] at h3; exact h3.elim
          · rw [if_neg hw] at h
            exact ⟨undef, .inr ⟨by simpa using hw, rfl⟩, h⟩
        obtain ⟨v, hy, hK⟩ := hst
        exact wpAnyH_take ho hsel hf hr (fun c a w => hQ c a _ _ w) hy hA (ih m _ _ _ hm hB' hA hK)
      | false =>
        simp only [Bool.false_eq_true, if_false, beq_iff_eq] at hk
        refine wpAnyH_all hk (by simp) fun j hj => ?_
        have hji : j = i := by simpa using hj
        subst hji
        unfold wpSeq at h
        unfold wpOp
        simp only [ho]
        by_cases hw : Region.wanted o (yielded ops a.tmps) = true
        · rw [if_pos hw] at h ⊢
          rcases h with h | h
          · exact .inl (Oper.wp_mono (fun a' w' h' => ⟨h'.1, ih m _ _ _ hm hB' h'.1 h'.2⟩) h)
          · exact .inr h
        · rw [if_neg hw] at h ⊢
          exact ⟨hA, ih m _ _ _ hm hB' hA h⟩
/-- **One order serves every order**, at one world. -/
theorem wp_region_seq {id : Nat} {a : Act} {w : World} {l : List Oper} (order : List (Nat × Bool)) (hm : P.follows .mixedOrders = true)
    (hB : (Region.noSelect l.toArray && order.length == l.toArray.size && order.all (fun x => decide (x.1 < l.length)) && seqOk .any l.toArray order (Array.replicate l.toArray.size false)) = true)
    (hQ : ∀ c a d v w, Q (.panic c) (a.put d v) w → Q (.panic c) a w)
    (h : wpSeq P l.toArray Q w.drew (order.map fun x => (nth l x.1, x.2)) a w.drew) : (Code.region id l.toArray true).wp P Q a w := by
  simp only [Bool.and_eq_true, beq_iff_eq, List.all_eq_true, decide_eq_true_eq] at hB
  obtain ⟨⟨⟨hsel, hlen⟩, hall⟩, hseq⟩ := hB
  refine wp_region_held (S := Ex w.drew) hm ?_
  have H := wpAnyH_seq (md := .any) (P := P) (A := w.drew) hsel hQ order (order.map fun x => (nth l x.1, x.2)) (Array.replicate l.toArray.size false) a w.drew (by
    simp only [List.map_map]
    refine List.map_congr_left fun x hx => ?_
    simp only [Function.comp, Prod.mk.injEq, and_true]
    exact nth_get l x.1 (hall x hx)) hseq (ex_refl _) h
  rwa [hlen] at H
/-- The same, over an elder world. -/
theorem wp_region_seqA {id : Nat} {a : Act} {w : World} {l : List Oper} (A : World) (order : List (Nat × Bool)) (hA : Ex A w.drew) (hm : P.follows .mixedOrders = true)
    (hB : (Region.noSelect l.toArray && order.length == l.toArray.size && order.all (fun x => decide (x.1 < l.length)) && seqOk .any l.toArray order (Array.replicate l.toArray.size false)) = true)
    (hQ : ∀ c a d v w, Q (.panic c) (a.put d v) w → Q (.panic c) a w)
    (h : wpSeq P l.toArray Q A (order.map fun x => (nth l x.1, x.2)) a w.drew) : (Code.region id l.toArray true).wp P Q a w := by
  simp only [Bool.and_eq_true, beq_iff_eq, List.all_eq_true, decide_eq_true_eq] at hB
  obtain ⟨⟨⟨hsel, hlen⟩, hall⟩, hseq⟩ := hB
  refine wp_region_held (S := Ex A) hm ?_
  have H := wpAnyH_seq (md := .any) (P := P) (A := A) hsel hQ order (order.map fun x => (nth l x.1, x.2)) (Array.replicate l.toArray.size false) a w.drew (by
    simp only [List.map_map]
    refine List.map_congr_left fun x hx => ?_
    simp only [Function.comp, Prod.mk.injEq, and_true]
    exact nth_get l x.1 (hall x hx)) hseq hA h
  rwa [hlen] at H
end
end Go.Proofs.YtbobamifpjlmiaaDoor

/- slices.Reverse of digests and of bools; own slices of both. -/
set_option linter.unusedSimpArgs false
set_option linter.unusedVariables false
set_option maxRecDepth 20000
namespace Go.Proofs.YtbobamifpjlmiaaDoor
open Go.RowKit
def KD (d : Dg) : List Value := (rowB 32 (dF d)).toList
def KB (b : Bool) : List Value := [.bool b]
theorem KD_len (d : Dg) : (KD d).length = 32 := by simp [KD]
theorem KB_len (b : Bool) : (KB b).length = 1 := rfl
@[go_sem] theorem KD_back (d : Dg) : (KD d).toArray = rowB 32 (dF d) := by simp [KD]
/-- A row of digests of the call's own. -/
def OwnD (w : World) (Z : Nat) (v : Value) (l : List Dg) : Prop := w.ownsRow Z 26 32 v l.length (l.flatMap KD)
def OwnB (w : World) (Z : Nat) (v : Value) (l : List Bool) : Prop := w.ownsRow Z 4 1 v l.length (l.flatMap KB)
theorem own_form {w : World} {Z : Nat} {t : TypeId} {s : Nat} {v : Value} {n : Nat} {xs : List Value} (h : w.ownsRow Z t s v n xs) : ∃ a c, v = .slice a n c ∧ n ≤ c ∧ c ≤ maxLen ∧ (a = none → c = 0) := by
  rcases h.2 with ⟨rfl, rfl⟩ | ⟨g, cap, cur, rfl, h1, h2, h3, h4, h5, h6⟩
  · exact ⟨none, 0, rfl, by omega, by decide, fun _ => rfl⟩
  · exact ⟨_, cap, rfl, h3, h4, fun h => by cases h⟩
set_option maxHeartbeats 1000000 in
theorem revd_any {Z : Nat} (l : List Dg) (v : Value) (w : World) (hown : OwnD w Z v l) (hl : l.length ≤ 140737488355328) :
    Calls Tryd.prog 65 #[v] w fun e w' => e = .returned (.tuple #[]) ∧ OwnD w' Z v l.reverse ∧ Below Z w w' := by
  obtain ⟨a, c, rfl, k1, k2, k3⟩ := own_form hown
  generalize hn : l.length = n at hl k1
  have HN : Hid (l.length = n) := Lib.hid hn
  unfold OwnD at hown ⊢
  rw [List.length_reverse]
  rw [hn] at hown ⊢
  clear hn
  go_enter Tryd.func65, Tryd.ntmps65
  go_wp2
  go_loopw [2, 3] (fun i j W => ∃ (q : Nat) (m : List Dg), q ≤ n ∧ i = I q ∧ j = I ((n : Int) - 1 - q) ∧ Hid (Turned l m q) ∧ Hid (W.ownsRow Z 26 32 (.slice a n c) n (m.flatMap KD)) ∧ Hid (Below Z w W)) (fun i _ _ => n - (intOf i).toNat)
  case atStart => exact ⟨0, l, by omega, rfl, by simp, Lib.hid (turned_start l), Lib.hid hown, Lib.hid (Below.refl _ _)⟩
  case round =>
    obtain ⟨q, m, hq, rfl, rfl, HT, HO, HB⟩ := hrel
    by_cases hlt : (q : Int) < (n : Int) - 1 - q
    · have hln := HN.out
      have hml := HT.out.len
      obtain ⟨g, cap, cur, hv, _⟩ := own_block HO.out (by omega) (by omega)
      obtain ⟨rfl, rfl⟩ : a = some ⟨g, 0, none⟩ ∧ c = cap := by simpa using hv
      obtain ⟨x, hx⟩ : ∃ x, m[q]? = some x := ⟨_, List.getElem?_eq_getElem (by omega)⟩
      obtain ⟨y, hy⟩ : ∃ y, m[n - 1 - q]? = some y := ⟨_, List.getElem?_eq_getElem (by omega)⟩
      obtain ⟨c1, f1, z1, z2⟩ := own_at KD_len HO.out hx
      obtain ⟨c2, f2, _, _⟩ := own_at KD_len HO.out hy
      rw [KD_back] at c1 c2
      have e1 : ((n : Int) - 1 - q) = ((n - 1 - q : Nat) : Int) := by omega
      have hO2 := own_set KD_len (by omega) HO.out y (i := q) (by omega)
      have hO3 := own_set KD_len (by omega) hO2.1 x (i := n - 1 - q) (by simp; omega)
      have HO3 := Lib.hid hO3
      have HB3 : Hid (Below Z w _) := Lib.hid ((HB.out.trans hO2.2).trans hO3.2)
      have HT3 := Lib.hid (turned_step HT.out (by omega) (by omega) hx hy)
      generalize hJ : n - 1 - q = J at e1 c2 f2 HO3 HB3 HT3
      have j1 : (q : Int) < n := by omega
      have j2 : (J : Int) < n := by omega
      have j3 : (0 : Int) ≤ J := by omega
      clear hO2 hO3 hv hln hml hx hy HN HT HO HB hJ
      rw [e1] at hlt ⊢
      go_wp2
      have mixed : Tryd.prog.follows .mixedOrders = true := by kernel_rfl
      go_big_region_o
      all_goals go_wp2
      refine ⟨⟨q + 1, (m.set q y).set J x, by omega, by go_num, ?_, HT3, ?_, ?_⟩, by simp [intOf]; omega⟩
      · congr 1; omega
      · exact Lib.hid (owns_drew HO3.out.1)
      · exact Lib.hid HB3.out.drew
    · have hl2 := HN.out
      have he := turned_end HT.out (by omega)
      rw [he] at HO
      clear he HT hq hown
      go_wp2
      go_end0
      exact ⟨rfl, HO.out, HB.out⟩
theorem own_atB {w : World} {Z g n cap : Nat} {l : List Bool} (h : w.ownsRow Z 4 1 (.slice (some ⟨g, 0, none⟩) n cap) n (l.flatMap KB)) {i : Nat} {a : Bool} (hi : l[i]? = some a) :
    w.cell? ⟨g, i, none⟩ = some (.bool a) ∧ w.frozen? ⟨g, i, none⟩ = false ∧ Z ≤ g ∧ g < w.heap.size := by
  obtain ⟨h1, h2, h3⟩ := own_at KB_len h hi
  have h4 := (cellsN_some.1 h1).2 0 (by omega)
  have h5 := frozenN_false.1 h2 0 (by omega)
  rw [Nat.mul_one, Nat.add_zero] at h4 h5
  exact ⟨h4, h5, h3⟩
theorem own_setB {w : World} {Z g n cap : Nat} {l : List Bool} (h : w.ownsRow Z 4 1 (.slice (some ⟨g, 0, none⟩) n cap) n (l.flatMap KB)) {i : Nat} (a : Bool) (hi : i < l.length) :
    (w.setCell ⟨g, i, none⟩ (.bool a)).ownsRow Z 4 1 (.slice (some ⟨g, 0, none⟩) n cap) n ((l.set i a).flatMap KB) ∧ Below Z w (w.setCell ⟨g, i, none⟩ (.bool a)) := by
  have := own_set KB_len (by omega) h a hi
  rwa [Nat.mul_one] at this
set_option maxHeartbeats 1000000 in
theorem revb_any {Z : Nat} (l : List Bool) (v : Value) (w : World) (hown : OwnB w Z v l) (hl : l.length ≤ 140737488355328) :
    Calls Tryd.prog 69 #[v] w fun e w' => e = .returned (.tuple #[]) ∧ OwnB w' Z v l.reverse ∧ Below Z w w' := by
  obtain ⟨a, c, rfl, k1, k2, k3⟩ := own_form hown
  generalize hn : l.length = n at hl k1
  have HN : Hid (l.length = n) := Lib.hid hn
  unfold OwnB at hown ⊢
  rw [List.length_reverse]
  rw [hn] at hown ⊢
  clear hn
  go_enter Tryd.func69, Tryd.ntmps69
  go_wp2
  go_loopw [2, 3] (fun i j W => ∃ (q : Nat) (m : List Bool), q ≤ n ∧ i = I q ∧ j = I ((n : Int) - 1 - q) ∧ Hid (Turned l m q) ∧ Hid (W.ownsRow Z 4 1 (.slice a n c) n (m.flatMap KB)) ∧ Hid (Below Z w W)) (fun i _ _ => n - (intOf i).toNat)
  case atStart => exact ⟨0, l, by omega, rfl, by simp, Lib.hid (turned_start l), Lib.hid hown, Lib.hid (Below.refl _ _)⟩
  case round =>
    obtain ⟨q, m, hq, rfl, rfl, HT, HO, HB⟩ := hrel
    by_cases hlt : (q : Int) < (n : Int) - 1 - q
    · have hln := HN.out
      have hml := HT.out.len
      obtain ⟨g, cap, cur, hv, _⟩ := own_block HO.out (by omega) (by omega)
      obtain ⟨rfl, rfl⟩ : a = some ⟨g, 0, none⟩ ∧ c = cap := by simpa using hv
      obtain ⟨x, hx⟩ : ∃ x, m[q]? = some x := ⟨_, List.getElem?_eq_getElem (by omega)⟩
      obtain ⟨y, hy⟩ : ∃ y, m[n - 1 - q]? = some y := ⟨_, List.getElem?_eq_getElem (by omega)⟩
      obtain ⟨c1, f1, z1, z2⟩ := own_atB HO.out hx
      obtain ⟨c2, f2, _, _⟩ := own_atB HO.out hy
      have e1 : ((n : Int) - 1 - q) = ((n - 1 - q : Nat) : Int) := by omega
      have hO2 := own_setB HO.out y (i := q) (by omega)
      have hO3 := own_setB hO2.1 x (i := n - 1 - q) (by simp; omega)
      have HO3 := Lib.hid hO3
      have HB3 : Hid (Below Z w _) := Lib.hid ((HB.out.trans hO2.2).trans hO3.2)
      have HT3 := Lib.hid (turned_step HT.out (by omega) (by omega) hx hy)
      generalize hJ : n - 1 - q = J at e1 c2 f2 HO3 HB3 HT3
      have j1 : (q : Int) < n := by omega
      have j2 : (J : Int) < n := by omega
      have j3 : (0 : Int) ≤ J := by omega
      clear hO2 hO3 hv hln hml hx hy HN HT HO HB hJ
      rw [e1] at hlt ⊢
      go_wp2
      have mixed : Tryd.prog.follows .mixedOrders = true := by kernel_rfl
      go_big_region_o
      all_goals go_wp2
      refine ⟨⟨q + 1, (m.set q y).set J x, by omega, by go_num, ?_, HT3, ?_, ?_⟩, by simp [intOf]; omega⟩
      · congr 1; omega
      · exact Lib.hid (owns_drew HO3.out.1)
      · exact Lib.hid HB3.out.drew
    · have hl2 := HN.out
      have he := turned_end HT.out (by omega)
      rw [he] at HO
      clear he HT hq hown
      go_wp2
      go_end0
      exact ⟨rfl, HO.out, HB.out⟩
end Go.Proofs.YtbobamifpjlmiaaDoor

/- Digests, bools behind a row of the call's own. -/
set_option linter.unusedSimpArgs false
set_option linter.unusedVariables false
set_option maxRecDepth 20000
namespace Go.Proofs.YtbobamifpjlmiaaDoor
open Go.RowKit
theorem appId : AppT Tryd.prog 22 26 32 32 (.agg (rowB 32 fun _ => 0)) := ⟨Tryd.underlying22, by kernel_rfl, by simp [Value.cells], by decide⟩
theorem appBool : AppT Tryd.prog 94 4 1 1 (.bool false) := ⟨Tryd.underlying94, by kernel_rfl, rfl, by decide⟩
theorem KD_one (l : List Dg) : ∀ u ∈ l.flatMap KD, u.oneCell' = true := by
  intro u hu
  simp only [List.mem_flatMap] at hu
  obtain ⟨d, _, hd⟩ := hu
  unfold KD at hd
  rw [rowB_bytes] at hd
  exact bytes_one _ u hd
theorem KB_one (l : List Bool) : ∀ u ∈ l.flatMap KB, u.oneCell' = true := by
  intro u hu
  simp only [List.mem_flatMap] at hu
  obtain ⟨d, _, hd⟩ := hu
  obtain rfl : u = .bool d := by simpa [KB] using hd
  rfl
theorem sld_news {w : World} {g off : Nat} {r : List Dg} (h : SlD w (some ⟨g, off, none⟩) r) : ∀ (j : Nat) (u : Value), (r.flatMap KD)[j]? = some u → w.cell? ((⟨g, off, none⟩ : Addr).add j) = some u := by
  intro j u hj
  have hlt : j < r.length * 32 := by
    have := (List.getElem?_eq_some_iff.1 hj).1
    rwa [flat_len KD_len] at this
  have hadd : (⟨g, off, none⟩ : Addr).add j = ⟨g, off + j, none⟩ := by unfold Addr.add; split <;> simp_all
  have hi : r[j / 32]? = some (r[j / 32]'(by omega)) := List.getElem?_eq_getElem _
  have h1 := (h.at hi).1
  have h2 := flat_get KD_len r (j / 32) _ (j % 32) hi (by omega)
  rw [show j / 32 * 32 + j % 32 = j by omega, hj] at h2
  have h3 := (cellsN_some.1 h1).2 (j % 32) (by omega)
  rw [hadd, show off + j = off + j / 32 * 32 + j % 32 by omega, h3]
  unfold KD at h2
  rw [Array.getElem?_toList] at h2
  exact h2.symm
theorem wpAppD {ops : Array Oper} {rest : List Oper} {o : Oper} {a : Act} {w : World} {Q : Exit → Act → World → Prop} (s x : Operand) (hgd : o.guard = none)
    (ho : o.op = .call { callee := .builtin .append, args := #[s, x], argTypes := #[22, 22] })
    {Z : Nat} {v : Value} {l r : List Dg} {g off m c : Nat} (hown : OwnD w Z v l) (hs : a.eval s = v) (hx : a.eval x = .slice (some ⟨g, off, none⟩) m c) (hm : m = r.length) (hr : SlD w (some ⟨g, off, none⟩) r) (hlen : l.length + r.length ≤ 1000000) (hZ : Z ≤ w.heap.size)
    (h : ∀ v' w', OwnD w' Z v' (l ++ r) → Below Z w w' → wpList Tryd.prog ops Q rest (a.put o.dst v') w') : wpList Tryd.prog ops Q (o :: rest) a w := by
  subst hm
  refine wpApp appId s x hgd ho hown hs ⟨g, off, none⟩ r.length c (r.flatMap KD) hx (flat_len KD_len r) (sld_news hr) (KD_one r) (by unfold maxLen; omega) (by omega) hZ fun v' w' k1 k2 => ?_
  rw [← List.flatMap_append, ← List.length_append] at k1
  exact h v' w' k1 k2
theorem sld_one {w w' : World} {g : Nat} (d : Dg) (k : Ex (w.alloc (.cells (rowB 32 (dF d)) 26)) w') (hg : g = w.heap.size) : SlD w' (some ⟨g, 0, none⟩) [d] := by
  subst hg
  have hb := ex_block k (heap_alloc_new w _)
  refine ⟨Or.inr ⟨_, 0, rfl, (Array.getElem?_eq_some_iff.1 hb).1, fun i e he => ?_⟩⟩
  have hi : i = 0 := by
    have := (List.getElem?_eq_some_iff.1 he).1
    simpa using this
  subst hi
  obtain rfl : d = e := by simpa using he
  refine cellsN_some.2 ⟨by simp, fun j hj => ?_⟩
  rw [Nat.zero_mul, Nat.add_zero, Nat.zero_add, cell_of_row _ w.heap.size j _ _ _ hb]
theorem ownd_nil (w : World) (Z : Nat) : OwnD w Z (.slice none 0 0) [] := owns_nil _ _ _ _
theorem OwnD.ex {w w' : World} {Z : Nat} {v : Value} {l : List Dg} (h : OwnD w Z v l) (k : Ex w w') : OwnD w' Z v l := owns_ex h k
theorem OwnD.slg {w : World} {Z : Nat} {v : Value} {l : List Dg} (h : OwnD w Z v l) : ∃ a c, v = .slice a l.length c ∧ l.length ≤ c ∧ c ≤ maxLen ∧ (a = none → c = 0) ∧ SlD w a l := by
  obtain ⟨a, c, rfl, k1, k2, k3⟩ := own_form h
  refine ⟨a, c, rfl, k1, k2, k3, ?_⟩
  rcases Nat.eq_zero_or_pos l.length with h0 | hpos
  · rw [List.eq_nil_of_length_eq_zero h0]; exact SlD.nil _ _
  · obtain ⟨g, cap, cur, hv, _⟩ := own_block h hpos (by omega)
    obtain ⟨rfl, rfl⟩ : a = some ⟨g, 0, none⟩ ∧ c = cap := by simpa using hv
    refine ⟨Or.inr ⟨g, 0, rfl, (h.lt g rfl).2, fun i d hd => ?_⟩⟩
    have := (own_at KD_len h hd).1
    rw [KD_back] at this
    rwa [Nat.zero_add]
/-- What hands back digests of the call's own. -/
def PostO (W : World) (l : List Dg) (e : Ending) (w' : World) : Prop := ∃ v, e = .returned v ∧ OwnD w' W.heap.size v l ∧ ∃ X, w' = wx W X
def PostO2 (W : World) (l : List Dg) (e : Ending) (w' : World) : Prop := ∃ v, e = .returned (.tuple #[v, I 0]) ∧ OwnD w' W.heap.size v l ∧ ∃ X, w' = wx W X
/-- A result in memory, and one beside it. -/
theorem ret_rowV {P : Program} {fn : Func} {p q : Tmp} {ty : TypeId} {d : TypeDesc} {n b : Nat} {cs : Array Value} {v : Value} {R : Ending → World → Prop} {a : Act} {w : World} (h : fn.results = #[.cell p ty, .tmp q])
    (hu : P.underlying ty = some d) (hd : d.isRow = true) (hi : (P.info? ty).map (·.size) = some n) (hp : a.tmps.getD p undef = .pointer (some ⟨b, 0, none⟩)) (hc : cellsN w b 0 n = some cs) (hq : a.tmps.getD q undef = v) (hdf : a.defers = [])
    (hR : R (.returned (.tuple #[.agg cs, v])) w) : bodyPost P fn R .ret a w := by
  have h1 := (cellsN_some.1 hc).1
  have hrun := run_loadVar_mid (P := P) w b 0 ty cs.toList d (cellsN_range hc) hu hd (by rw [hi]; simp [h1])
  have hp' : a.tmps[p]?.getD undef = .pointer (some ⟨b, 0, none⟩) := by simpa using hp
  have hq' : a.tmps[q]?.getD undef = v := by simpa using hq
  exact bodyPost_ret (by simp [results, h, hp', hq', asAddr, hrun]) hdf hR
/-- Two results in memory, and one beside them. -/
theorem ret_row3 {P : Program} {fn : Func} {p p2 q : Tmp} {ty : TypeId} {d : TypeDesc} {n b b2 : Nat} {cs cs2 : Array Value} {v : Value} {R : Ending → World → Prop} {a : Act} {w : World} (h : fn.results = #[.cell p ty, .cell p2 ty, .tmp q])
    (hu : P.underlying ty = some d) (hd : d.isRow = true) (hi : (P.info? ty).map (·.size) = some n) (hp : a.tmps.getD p undef = .pointer (some ⟨b, 0, none⟩)) (hc : cellsN w b 0 n = some cs)
    (hp2 : a.tmps.getD p2 undef = .pointer (some ⟨b2, 0, none⟩)) (hc2 : cellsN w b2 0 n = some cs2) (hq : a.tmps.getD q undef = v) (hdf : a.defers = [])
    (hR : R (.returned (.tuple #[.agg cs, .agg cs2, v])) w) : bodyPost P fn R .ret a w := by
  have h1 := (cellsN_some.1 hc).1
  have h2 := (cellsN_some.1 hc2).1
  have hrun := run_loadVar_mid (P := P) w b 0 ty cs.toList d (cellsN_range hc) hu hd (by rw [hi]; simp [h1])
  have hrun2 := run_loadVar_mid (P := P) w b2 0 ty cs2.toList d (cellsN_range hc2) hu hd (by rw [hi]; simp [h2])
  have hp' : a.tmps[p]?.getD undef = .pointer (some ⟨b, 0, none⟩) := by simpa using hp
  have hp2' : a.tmps[p2]?.getD undef = .pointer (some ⟨b2, 0, none⟩) := by simpa using hp2
  have hq' : a.tmps[q]?.getD undef = v := by simpa using hq
  exact bodyPost_ret (by simp [results, h, hp', hp2', hq', asAddr, hrun, hrun2]) hdf hR
/-! ### A slice of one digest -/
def buildRun (P : Program) (t : TypeId) (v : Value) (w : World) : Result Next := ((Instr.buildSlice t 1 #[(0, v)]).run P w).andThen fun x w' => .ok (.value x) w'
@[go_sem ↓ high] theorem run_build_pre {P : Program} (ρ : Operand → Value) (d : Option Tmp) (t : TypeId) (x : Operand) (ty : TypeId) (pos : String) (aft : Array Edge) (g : Option (Nat × Bool)) (w : World) :
    Sem.run P (execOp ρ ⟨d, .buildSlice t 1 #[(0, x)], ty, pos, aft, g⟩) w = buildRun P t (ρ x) w := by
  simp only [execOp, Sem.run_bind, Sem.run_pure, buildRun, List.map_toArray, List.map_cons, List.map_nil]
@[go_sem low] theorem buildRun_other {P : Program} (t : TypeId) (v : Value) (w : World) : buildRun P t v w = ((Instr.buildSlice t 1 #[(0, v)]).run P w).andThen fun x w' => .ok (.value x) w' := rfl
theorem fill_id (f : Nat → UInt8) : Array.foldl (fun (cs : Array Value) (x : Value × Nat) => cs.setIfInBounds x.2 x.1) #[B 0, B 0, B 0, B 0, B 0, B 0, B 0, B 0, B 0, B 0, B 0, B 0, B 0, B 0, B 0, B 0, B 0, B 0, B 0, B 0, B 0, B 0, B 0, B 0, B 0, B 0, B 0, B 0, B 0, B 0, B 0, B 0] (rowB 32 f).zipIdx 0 32 = rowB 32 f := by
  kernel_rfl
@[go_sem] theorem buildRun_id (f : Nat → UInt8) (w : World) : buildRun Tryd.prog 22 (.agg (rowB 32 f)) w = .ok (.value (.slice (some ⟨w.heap.size, 0, none⟩) 1 1)) (w.alloc (.cells (rowB 32 f) 26)) := by
  unfold buildRun
  have hi : (Tryd.prog.info? 26).map (fun i => (i.zero, i.size)) = some (some (.agg (rowB 32 fun _ => 0)), 32) := by kernel_rfl
  obtain ⟨i, hi1, hi2⟩ := Option.map_eq_some_iff.1 hi
  simp only [Prod.mk.injEq] at hi2
  simp [Instr.buildSlice, run_underlying Tryd.underlying22, Go.sizeOf, typeInfo, zeroValue, hi1, hi2.1, hi2.2, Instr.fill, Value.cells, newRow, go_sem]
  exact congrArg (fun c => w.alloc (.cells c 26)) (fill_id f)
end Go.Proofs.YtbobamifpjlmiaaDoor
