import Derived.Test.YtbobamifpjlmiaaDoorMSeq
import Derived.Test.YtbobamifpjlmiaaDoorMMem
import Derived.Test.YtbobamifpjlmiaaDoorMLeafR

/- A region that draws its order, walked in one order, over whatever is known of the worlds between. Over whatever program. -/
set_option linter.unusedSimpArgs false
set_option linter.unusedVariables false
set_option maxRecDepth 20000
namespace Go.Proofs.YtbobamifpjlmiaaDoor
open Go.RowKit
/-- X where it agrees with A at the block b; else A. -/
noncomputable def fx (A : World) (b : Nat) (X : World) : World := open Classical in if X.heap[b]? = A.heap[b]? then X else A
theorem fx_heap (A : World) (b : Nat) (X : World) : (fx A b X).heap[b]? = A.heap[b]? := by
  unfold fx; split
  · assumption
  · rfl
theorem fx_of {A X : World} {b : Nat} (h : X.heap[b]? = A.heap[b]?) : X = fx A b X := by
  unfold fx; rw [if_pos h]
@[go_sem high] theorem fx_cell (A : World) (b : Nat) (X : World) (o : Nat) : (fx A b X).cell? ⟨b, o, none⟩ = A.cell? ⟨b, o, none⟩ := by
  simp only [World.cell?, fx_heap]
@[go_sem high] theorem fx_cellsN (A : World) (b : Nat) (X : World) (o n : Nat) : cellsN (fx A b X) b o n = cellsN A b o n := cellsN_congr fun j _ => fx_cell A b X _
def MixQH (Q : Exit → Act → World → Prop) (R : Act → World → Prop) (H : World → Prop) : Exit → Act → World → Prop
  | .normal, a', w' => H w' ∧ R a' w'
  | e, a', w' => Q e a' w'
theorem mixQH_mk {Q : Exit → Act → World → Prop} {R : Act → World → Prop} {H : World → Prop} {a' : Act} {w' : World} (h : H w') (k : R a' w') : MixQH Q R H .normal a' w' := ⟨h, k⟩
theorem mixQH_wp {P : Program} {Q : Exit → Act → World → Prop} {R : Act → World → Prop} {o : Oper} {a : Act} {w : World} {H : World → Prop} {K : Act → World → Prop} (h : o.wp P a w K (MixQH Q R H)) : o.wp P a w K Q := by
  unfold Oper.wp at *
  generalize (execOp a.eval o).run P w = r at *
  cases r with
  | ok n w' =>
    cases n <;> simp only [Oper.upon] at h ⊢ <;>
      first
        | exact h
        | exact Calls.mono h (fun e w'' he => by cases e <;> exact he)
  | halt x w' => cases x <;> simp only [Oper.upon] at h ⊢ <;> exact h
section
variable {P : Program} {ops : Array Oper} {Q : Exit → Act → World → Prop} {md : Region.Mode}
def wpSeqH (P : Program) (ops : Array Oper) (Q : Exit → Act → World → Prop) (H : World → Prop) : List (Oper × Bool) → Act → World → Prop
  | [], a, w => Q .normal a w
  | (o, true) :: r, a, w => if Region.wanted o (yielded ops a.tmps) then o.quiet P a H (fun a' => wpSeqH P ops Q H r a' w) else wpSeqH P ops Q H r (a.put o.dst undef) w
  | (o, false) :: r, a, w => if Region.wanted o (yielded ops a.tmps) then (o.wp P a w (fun a' w' => H w' ∧ wpSeqH P ops Q H r a' w') Q ∨ (o.asks P a w ∧ LetsOut Q)) else wpSeqH P ops Q H r (a.put o.dst undef) w
theorem wpSeqH_look {H : World → Prop} {o : Oper} {r : List (Oper × Bool)} {a : Act} {w : World}
    (h : wpQuiet P ops H (fun a' => wpSeqH P ops Q H r a' w) [o] a) : wpSeqH P ops Q H ((o, true) :: r) a w := h
theorem wpSeqH_eff {H : World → Prop} {o : Oper} {r : List (Oper × Bool)} {a : Act} {w : World} (hw : Region.wanted o (yielded ops a.tmps) = true)
    (h : wpList P ops (MixQH Q (wpSeqH P ops Q H r) H) [{ o with guard := none }] a w) : wpSeqH P ops Q H ((o, false) :: r) a w := by
  unfold wpSeqH
  rw [if_pos hw]
  unfold wpList at h
  rw [if_pos (by simp [Region.wanted])] at h
  rcases h with h | ⟨h1, h2⟩
  · exact .inl (mixQH_wp (Oper.wp_mono (fun a' w' h' => h') h))
  · exact .inr ⟨h1, h2⟩
theorem wpSeqH_effF {H : World → Prop} {o : Oper} {r : List (Oper × Bool)} {a : Act} {w : World} (hw : Region.wanted o (yielded ops a.tmps) = false)
    (h : wpSeqH P ops Q H r (a.put o.dst undef) w) : wpSeqH P ops Q H ((o, false) :: r) a w := by
  unfold wpSeqH
  rw [hw]
  exact h
theorem wpSeqH_nil {H : World → Prop} {a : Act} {w : World} (h : Q .normal a w) : wpSeqH P ops Q H [] a w := h
theorem wpAnyH_seqH {H : World → Prop} (hsel : Region.noSelect ops = true) (hQ : ∀ c a d v w, Q (.panic c) (a.put d v) w → Q (.panic c) a w) :
    ∀ (l : List (Nat × Bool)) (m : List (Oper × Bool)) (listed : Array Bool) (a : Act) (w : World), l.map (fun x => (ops[x.1]?, x.2)) = m.map (fun x => (some x.1, x.2)) → seqOk md ops l listed = true → H w →
      wpSeqH P ops Q H m a w → wpAnyH P md ops Q H l.length listed a w := by
  intro l
  induction l with
  | nil =>
    intro m listed a w hm hB hA h
    cases m with
    | nil => exact wpAnyH_done (by simpa [seqOk] using hB) h _
    | cons x m => cases hm
  | cons x l ih =>
    intro m listed a w hm hB hA h
    obtain ⟨i, look⟩ := x
    cases m with
    | nil => cases hm
    | cons y m =>
      obtain ⟨o, look'⟩ := y
      simp only [List.map_cons, List.cons.injEq, Prod.mk.injEq] at hm
      obtain ⟨⟨ho, rfl⟩, hm⟩ := hm
      simp only [seqOk, Bool.and_eq_true] at hB
      obtain ⟨⟨hr, hk⟩, hB'⟩ := hB
      cases look with
      | true =>
        simp only [if_true, Bool.and_eq_true] at hk
        obtain ⟨hf, hl⟩ := hk
        have hl' : isLook o.op = true := by simpa [ho] using hl
        have hst : ∃ v, YieldsIf P ops H o v a ∧ wpSeqH P ops Q H m (a.put o.dst v) w := by
          unfold wpSeqH at h
          by_cases hw : Region.wanted o (yielded ops a.tmps) = true
          · rw [if_pos hw] at h
            obtain ⟨v, h1, h2⟩ := h
            refine ⟨v, .inl ⟨hw, fun w' hw' => ?_⟩, h2⟩
            have h3 := h1 w' hw'
            unfold Oper.quietAt at h3
            cases hrun : (execOp a.eval o).run P w' with
            | ok x w1 =>
              obtain ⟨u, rfl⟩ := look_value hl' a.eval w' x w1 hrun
              rw [hrun] at h3
              simp only [Oper.quietUpon] at h3
              rw [h3.1, h3.2]
            | halt x w1 => rw [hrun] at h3; exact h3.elim
          · rw [if_neg hw] at h
            exact ⟨undef, .inr ⟨by simpa using hw, rfl⟩, h⟩
        obtain ⟨v, hy, hK⟩ := hst
        exact wpAnyH_take ho hsel hf hr (fun c a w => hQ c a _ _ w) hy hA (ih m _ _ _ hm hB' hA hK)
      | false =>
        simp only [Bool.false_eq_true, if_false, beq_iff_eq] at hk
        refine wpAnyH_all hk (by simp) fun j hj => ?_
        have hji : j = i := by simpa using hj
        subst hji
        unfold wpSeqH at h
        unfold wpOp
        simp only [ho]
        by_cases hw : Region.wanted o (yielded ops a.tmps) = true
        · rw [if_pos hw] at h ⊢
          rcases h with h | h
          · exact .inl (Oper.wp_mono (fun a' w' h' => ⟨h'.1, ih m _ _ _ hm hB' h'.1 h'.2⟩) h)
          · exact .inr h
        · rw [if_neg hw] at h ⊢
          exact ⟨hA, ih m _ _ _ hm hB' hA h⟩
theorem wp_region_seqH {id : Nat} {a : Act} {w : World} {l : List Oper} (H : World → Prop) (order : List (Nat × Bool)) (hA : H w.drew) (hm : P.follows .mixedOrders = true)
    (hB : (Region.noSelect l.toArray && order.length == l.toArray.size && order.all (fun x => decide (x.1 < l.length)) && seqOk .any l.toArray order (Array.replicate l.toArray.size false)) = true)
    (hQ : ∀ c a d v w, Q (.panic c) (a.put d v) w → Q (.panic c) a w)
    (h : wpSeqH P l.toArray Q H (order.map fun x => (nth l x.1, x.2)) a w.drew) : (Code.region id l.toArray true).wp P Q a w := by
  simp only [Bool.and_eq_true, beq_iff_eq, List.all_eq_true, decide_eq_true_eq] at hB
  obtain ⟨⟨⟨hsel, hlen⟩, hall⟩, hseq⟩ := hB
  refine wp_region_held (S := H) hm ?_
  have H1 := wpAnyH_seqH (md := .any) (P := P) (H := H) hsel hQ order (order.map fun x => (nth l x.1, x.2)) (Array.replicate l.toArray.size false) a w.drew (by
    simp only [List.map_map]
    refine List.map_congr_left fun x hx => ?_
    simp only [Function.comp, Prod.mk.injEq, and_true]
    exact nth_get l x.1 (hall x hx)) hseq hA h
  rwa [hlen] at H1
end
end Go.Proofs.YtbobamifpjlmiaaDoor

/- climb: a tree over pairs, by whatever tells the digests of its parts and keeps a state in memory. -/
set_option linter.unusedSimpArgs false
set_option linter.unusedVariables false
set_option maxRecDepth 20000
namespace Go.Proofs.YtbobamifpjlmiaaDoor
open Go.RowKit
def treeD {σ : Type} (F : Nat → Nat → σ → Option Dg × σ) (at_ n : Nat) (s : σ) : Dg × σ :=
  match F at_ n s with
  | (some d, s1) => (d, s1)
  | (none, s1) => if h : 2 ≤ n then
      have := split_lt h
      have := split_pos n
      (nodeD (treeD F at_ (splitN n) s1).1 (treeD F (at_ + splitN n) (n - splitN n) (treeD F at_ (splitN n) s1).2).1, (treeD F (at_ + splitN n) (n - splitN n) (treeD F at_ (splitN n) s1).2).2)
    else (zeroD, s1)
termination_by n
theorem tree_done {σ : Type} {F : Nat → Nat → σ → Option Dg × σ} {at_ n : Nat} {s s1 : σ} {d : Dg} (h : F at_ n s = (some d, s1)) : treeD F at_ n s = (d, s1) := by
  unfold treeD; rw [h]
theorem tree_more {σ : Type} {F : Nat → Nat → σ → Option Dg × σ} {at_ n : Nat} {s s1 : σ} (h : F at_ n s = (none, s1)) (h2 : 2 ≤ n) :
    treeD F at_ n s = (nodeD (treeD F at_ (splitN n) s1).1 (treeD F (at_ + splitN n) (n - splitN n) (treeD F at_ (splitN n) s1).2).1, (treeD F (at_ + splitN n) (n - splitN n) (treeD F at_ (splitN n) s1).2).2) := by
  conv => lhs; unfold treeD
  rw [h]
  simp only [dif_pos h2]
theorem tree_Q {σ : Type} (F : Nat → Nat → σ → Option Dg × σ) (Qs : Nat → σ → Prop) (hF : ∀ at_ s, (F at_ 1 s).1.isSome = true) (hQ : ∀ at_ n s, 1 ≤ n → Qs at_ s → (F at_ n s).1.isSome = true → Qs (at_ + n) (F at_ n s).2) (hQ0 : ∀ at_ n s, Qs at_ s → (F at_ n s).1 = none → Qs at_ (F at_ n s).2)
    (n : Nat) : ∀ at_ s, 0 < n → Qs at_ s → Qs (at_ + n) (treeD F at_ n s).2 := by
  induction n using Nat.strongRecOn with
  | ind n ih =>
    intro at_ s h1 hq
    cases hfs : F at_ n s with
    | mk o s1 =>
      cases o with
      | some d =>
        rw [tree_done hfs]
        have := hQ at_ n s h1 hq (by rw [hfs]; rfl)
        rwa [hfs] at this
      | none =>
        have h2 : 2 ≤ n := by
          rcases Nat.lt_or_ge n 2 with h | h
          · obtain rfl : n = 1 := by omega
            have := hF at_ s
            rw [hfs] at this
            cases this
          · exact h
        have hk1 := split_lt h2
        have hk2 := split_pos n
        have hq1 : Qs at_ s1 := by have := hQ0 at_ n s hq (by rw [hfs]); rwa [hfs] at this
        rw [tree_more hfs h2]
        have := ih (n - splitN n) (by omega) (at_ + splitN n) _ (by omega) (ih _ hk1 at_ s1 hk2 hq1)
        rwa [show at_ + splitN n + (n - splitN n) = at_ + n by omega] at this
structure Inv4 {σ : Type} (Inv : (Nat → Prop) → σ → World → Prop) : Prop where
  glob : ∀ {p s w}, Inv p s w → Glob w
  low : ∀ {p s w b}, Inv p s w → p b → b < w.heap.size
  grow : ∀ {p s w} (q : Nat → Prop) {w'}, Inv p s w → Ex w w' → (∀ b, q b → p b ∨ (w.heap.size ≤ b ∧ b < w'.heap.size)) → Inv q s w'
  set : ∀ {p s w b} (o : Nat) (vs : List Value), Inv p s w → p b → Inv p s (w.setCells b o vs)
structure HeldP (p : Nat → Prop) (w w' : World) : Prop where
  size : w.heap.size ≤ w'.heap.size
  same : ∀ b, p b → w'.heap[b]? = w.heap[b]?
def PostC {σ : Type} (Inv : (Nat → Prop) → σ → World → Prop) (p : Nat → Prop) (s : σ) (w : World) (v : Value) (e : Ending) (w' : World) : Prop := e = .returned v ∧ HeldP p w w' ∧ Inv p s w'
theorem ex_of_alloc (w : World) (ob : Obj) (b : Nat) (h : b < w.heap.size) : (w.alloc ob).heap[b]? = w.heap[b]? := by
  show (w.heap.push ob)[b]? = _
  rw [Array.getElem?_push, if_neg (by omega)]
theorem block_cells {w : World} {b n : Nat} {cs : Array Value} {t : TypeId} (h : w.heap[b]? = some (.cells cs t (0, 0))) (hn : cs.size = n) : cellsN w b 0 n = some cs ∧ frozenN w b 0 n = false ∧ b < w.heap.size := by
  subst hn
  refine ⟨cellsN_some.2 ⟨rfl, fun j hj => ?_⟩, frozenN_false.2 fun j hj => ?_, (Array.getElem?_eq_some_iff.1 h).1⟩
  · rw [Nat.zero_add, cell_of_row w b j cs t (0, 0) h]
  · simp [World.frozen?, h]
theorem held_new {p : Nat → Prop} {w w2 : World} {ob : Obj} (h : HeldP (fun b => p b ∨ b = w.heap.size) (w.alloc ob) w2) : w2.heap[w.heap.size]? = some ob :=
  (h.same _ (.inr rfl)).trans (heap_alloc_new w ob)
theorem held_old {p : Nat → Prop} {w w2 : World} {ob : Obj} (h : HeldP (fun b => p b ∨ b = w.heap.size) (w.alloc ob) w2) (hp : ∀ b, p b → b < w.heap.size) : HeldP p w w2 :=
  ⟨by have := h.size; simp [go_sem] at this; omega, fun b hb => by
    rw [h.same b (.inl hb)]
    have := hp b hb
    exact (ex_of_alloc w ob b this)⟩
theorem splice_row (f g : Nat → UInt8) : spliceA (rowB 32 g) 0 (rowB 32 f).toList = rowB 32 f := by
  apply arr_ext; intro j
  rw [spliceA_get]
  by_cases h : j < 32
  · rw [if_pos ⟨by omega, by simp; omega, by simp; exact h⟩, Nat.sub_zero, Array.getElem?_toList]
  · rw [if_neg (by simp; omega), rowB_get, rowB_get, if_neg h, if_neg h]
theorem tree_end {σ : Type} {Inv : (Nat → Prop) → σ → World → Prop} (I4 : Inv4 Inv) {p : Nat → Prop} {s : σ} {w w4 w' : World} {f g : Nat → UInt8} {t : TypeId} (hp : ∀ b, p b → b < w.heap.size) (hb : w4.heap[w.heap.size]? = some (.cells (rowB 32 g) t (0, 0)))
    (hH : HeldP p w w4) (hI : Inv (fun b => p b ∨ b = w.heap.size) s w4) (k : Ex (w4.setCells w.heap.size 0 (rowB 32 f).toList) w') : HeldP p w w' ∧ Inv p s w' ∧ cellsN w' w.heap.size 0 32 = some (rowB 32 f) := by
  have hsz : (w4.setCells w.heap.size 0 (rowB 32 f).toList).heap.size = w4.heap.size := setCells_size _ _ _ _
  have hlt := (block_cells (n := 32) hb (by simp)).2.2
  refine ⟨⟨?_, fun b hpb => ?_⟩, ?_, ?_⟩
  · have := ex_size k
    have := hH.size
    omega
  · have h1 := hp b hpb
    have h2 := hH.size
    rw [← hH.same b hpb]
    obtain ⟨X, rfl⟩ := k
    rw [wx_heap _ _ _ (by omega), setCells_heap _ _ _ _ _ (by omega)]
  · exact I4.grow _ (I4.set 0 _ hI (.inr rfl)) k fun b hb => .inl (.inl hb)
  · have h3 := setCells_block w.heap.size t (0, 0) (rowB 32 f).toList 0 w4 (rowB 32 g) hb
    rw [splice_row] at h3
    exact (block_cells (ex_block k h3) (by simp)).1
set_option maxHeartbeats 1000000 in
theorem climbT_any {σ : Type} {Inv : (Nat → Prop) → σ → World → Prop} (I4 : Inv4 Inv) (F : Nat → Nat → σ → Option Dg × σ) (f : Nat) (cap : Array Value) (M : Nat) (hM : M ≤ 1000)
    (hf : ∀ args w, (callFunc f args).run Tryd.prog w = .ok (.enter f args) w) (hF : ∀ at_ s, (F at_ 1 s).1.isSome = true)
    (Qs : Nat → σ → Prop) (hQ : ∀ at_ n s, 1 ≤ n → Qs at_ s → (F at_ n s).1.isSome = true → Qs (at_ + n) (F at_ n s).2) (hQ0 : ∀ at_ n s, Qs at_ s → (F at_ n s).1 = none → Qs at_ (F at_ n s).2)
    (hC : ∀ p (at_ n : Nat) s w, 1 ≤ n → at_ + n ≤ M → Qs at_ s → Inv p s w → Calls Tryd.prog f (#[I at_, I n] ++ cap) w (PostC Inv p (F at_ n s).2 w (.tuple #[.agg (rowB 32 (dF ((F at_ n s).1.getD zeroD))), .bool (F at_ n s).1.isSome]))) (n : Nat) :
    ∀ (at_ : Nat) (s : σ) (p : Nat → Prop) (w : World), 1 ≤ n → at_ + n ≤ M → Qs at_ s → Inv p s w →
      Calls Tryd.prog 72 #[I at_, I n, .func (.func f) #[] cap] w (PostC Inv p (treeD F at_ n s).2 w (.agg (rowB 32 (dF (treeD F at_ n s).1)))) := by
  induction n using Nat.strongRecOn with
  | ind n ih =>
    intro at_ s p w h1 hat hq hI
    have hc := hC (fun b => p b ∨ b = w.heap.size) at_ n s (w.alloc (.cells (rowB 32 fun _ => 0) 26)) h1 hat hq (I4.grow _ hI (ex_alloc (ex_refl _) _) (fun b hb => by rcases hb with hb | rfl; exact .inl hb; exact .inr ⟨Nat.le_refl _, by simp [go_sem]⟩))
    have HC := Lib.hid hc
    cases hfs : F at_ n s with
    | mk o s1 =>
      rw [hfs] at HC
      cases o with
      | some d =>
        rw [tree_done hfs]
        clear ih hfs hc hC hF hQ hQ0 hq
        simp only [Option.getD_some, Option.isSome_some] at HC ⊢
        go_enter Tryd.func72, Tryd.ntmps72
        go_wp2_with ((with_reducible refine (HC.out).mono ?_); rintro e w2 ⟨rfl, hH, hI2⟩; obtain ⟨r1, r2, r3⟩ := block_cells (n := 32) (held_new hH) (by simp); replace hH := Lib.hid hH; replace hI2 := Lib.hid hI2)
        obtain ⟨z1, z2, z3⟩ := tree_end I4 (f := dF d) (w' := (w2.setCells w.heap.size 0 (rowB 32 (dF d)).toList).alloc (.cells (rowB 32 (dF d)) 26)) (fun b => I4.low hI) (held_new hH.out) (held_old hH.out fun b => I4.low hI) hI2.out (by (try show Ex _ _); repeat (first | (with_reducible exact ex_refl _) | (with_reducible assumption) | (with_reducible refine ex_drewL ?_) | (with_reducible refine ex_appR ?_ _) | (with_reducible refine ex_wx ?_ _) | (with_reducible refine ex_drew ?_) | (with_reducible refine ex_alloc ?_ _)))
        exact ret_row (cs := rowB 32 (dF d)) Tryd.results72 Tryd.underlying26 rfl info_id rfl z3 rfl ⟨rfl, z1, z2⟩
      | none =>
        have h2 : 2 ≤ n := by
          rcases Nat.lt_or_ge n 2 with h | h
          · obtain rfl : n = 1 := by omega
            have := hF at_ s
            rw [hfs] at this
            cases this
          · exact h
        have hk1 := split_lt h2
        have hk2 := split_pos n
        rw [tree_more hfs h2]
        have hq1 : Qs at_ s1 := by have := hQ0 at_ n s hq (by rw [hfs]); rwa [hfs] at this
        have hq2 := tree_Q F Qs hF hQ hQ0 (splitN n) at_ s1 hk2 hq1
        have HS := Lib.hid (fun w => half_any n w h2 (by omega))
        simp only [Option.getD_none, Option.isSome_none] at HC
        rw [row_zero] at HC
        have HT1 : Hid (∀ w2 w', Inv (fun b => p b ∨ b = w.heap.size) s1 w2 → Ex w2 w' → Calls Tryd.prog 72 #[I at_, I (splitN n), .func (.func f) #[] cap] w' (PostC Inv (fun b => p b ∨ b = w.heap.size) (treeD F at_ (splitN n) s1).2 w' (.agg (rowB 32 (dF (treeD F at_ (splitN n) s1).1))))) :=
          Lib.hid fun w2 w' hi k => ih _ hk1 at_ s1 _ w' hk2 (by omega) hq1 (I4.grow _ hi k fun b hb => .inl hb)
        have HT2 : Hid (∀ w3 w', Inv (fun b => p b ∨ b = w.heap.size) (treeD F at_ (splitN n) s1).2 w3 → Ex w3 w' → w3.heap.size < w'.heap.size → Calls Tryd.prog 72 #[I ((at_ : Int) + splitN n), I ((n : Int) - splitN n), .func (.func f) #[] cap] w' (PostC Inv (fun b => (p b ∨ b = w.heap.size) ∨ b = w3.heap.size) (treeD F (at_ + splitN n) (n - splitN n) (treeD F at_ (splitN n) s1).2).2 w' (.agg (rowB 32 (dF (treeD F (at_ + splitN n) (n - splitN n) (treeD F at_ (splitN n) s1).2).1))))) :=
          Lib.hid fun w3 w' hi k hlt => by
            have := ih (n - splitN n) (by omega) (at_ + splitN n) (treeD F at_ (splitN n) s1).2 (fun b => (p b ∨ b = w.heap.size) ∨ b = w3.heap.size) w' (by omega) (by omega) hq2 (I4.grow _ hi k fun b hb => by
              rcases hb with hb | rfl
              · exact .inl hb
              · exact .inr ⟨Nat.le_refl _, hlt⟩)
            rwa [show ((at_ + splitN n : Nat) : Int) = (at_ : Int) + splitN n by omega, show ((n - splitN n : Nat) : Int) = (n : Int) - splitN n by omega] at this
        generalize treeD F (at_ + splitN n) (n - splitN n) (treeD F at_ (splitN n) s1).2 = r2 at HT2 ⊢
        generalize treeD F at_ (splitN n) s1 = r1 at HT1 HT2 ⊢
        obtain ⟨a, s2⟩ := r1
        obtain ⟨b, s3⟩ := r2
        simp only at HT1 HT2 ⊢
        have HJ : Hid (∀ w', Glob w' → Calls Tryd.prog 55 #[.agg (rowB 32 (dF a)), .agg (rowB 32 (dF b))] w' (Post w' (.agg (rowB 32 (dF (nodeD a b)))))) := Lib.hid fun w' G => sjoin_any G a b w' (ex_refl _)
        generalize splitN n = k at HS HT1 HT2 hk1 hk2
        clear ih hc hF hfs hC hQ hQ0 hq hq1 hq2
        go_enter Tryd.func72, Tryd.ntmps72
        go_wp2_with (first | (go_at_call 96; refine (HS.out _).mono ?_; rintro e w' ⟨rfl, rfl⟩) | (go_at_call 72; (with_reducible refine (HT1.out _ _ hI2.out (by (try show Ex _ _); repeat (first | (with_reducible exact ex_refl _) | (with_reducible assumption) | (with_reducible refine ex_drewL ?_) | (with_reducible refine ex_appR ?_ _) | (with_reducible refine ex_wx ?_ _) | (with_reducible refine ex_drew ?_) | (with_reducible refine ex_alloc ?_ _)))).mono ?_); rintro e w3 ⟨rfl, hH3, hI3⟩; replace hH3 := Lib.hid hH3; replace hI3 := Lib.hid hI3) | ((with_reducible refine (HC.out).mono ?_); rintro e w2 ⟨rfl, hH, hI2⟩; obtain ⟨r1, r2, r3⟩ := block_cells (n := 32) (held_new hH) (by simp); replace hH := Lib.hid hH; replace hI2 := Lib.hid hI2))
        have hb2 := held_new hH.out
        have hb3 : w3.heap[w.heap.size]? = some (.cells (rowB 32 fun _ => 0) 26 (0, 0)) := by
          rw [hH3.out.same _ (.inr rfl), ex_of_alloc _ _ _ r3]; exact hb2
        have r5 := (block_cells (n := 32) hb3 (by simp)).2.2
        replace hb2 := Lib.hid hb2
        replace hb3 := Lib.hid hb3
        clear r1 r2
        refine wp_region_seqH (fun w' => ∃ X, w' = fx (w3.alloc (.cells (rowB 32 (dF a)) 26)) w3.heap.size X) [(0, true), (1, true), (2, true), (3, true), (4, true), (5, true), (6, true), (7, true), (8, false), (9, false), (10, false)] ?_ (by kernel_rfl) (by kernel_rfl) (fun _ _ d _ _ h => by cases d <;> exact h) ?_
        · exact ⟨_, fx_of rfl⟩
        simp only [List.map_cons, List.map_nil, nth]
        repeat ((with_reducible refine wpSeqH_look ?_); go_big_quiet_step (fail); (with_reducible refine wpQuiet_nil ?_))
        (with_reducible refine wpSeqH_eff ?_ ?_)
        · rfl
        try dsimp only
        go_wp2_with ((with_reducible refine (HT2.out _ _ hI3.out (by (try show Ex _ _); repeat (first | (with_reducible exact ex_refl _) | (with_reducible assumption) | (with_reducible refine ex_drewL ?_) | (with_reducible refine ex_appR ?_ _) | (with_reducible refine ex_wx ?_ _) | (with_reducible refine ex_drew ?_) | (with_reducible refine ex_alloc ?_ _))) (by simp [go_sem])).mono ?_); rintro e w4 ⟨rfl, hH4, hI4⟩)
        have hb4 : w4.heap[w.heap.size]? = some (.cells (rowB 32 fun _ => 0) 26 (0, 0)) := by
          rw [hH4.same _ (.inl (.inr rfl))]
          exact (ex_of_alloc _ _ _ r5).trans hb3.out
        have hb5 : w4.heap[w3.heap.size]? = (w3.alloc (.cells (rowB 32 (dF a)) 26)).heap[w3.heap.size]? := hH4.same _ (.inr rfl)
        have hs5 := hH4.size
        obtain ⟨q1, q2, q3⟩ := block_cells (n := 32) hb4 (by simp)
        replace hH4 := Lib.hid hH4
        replace hI4 := Lib.hid hI4
        replace hb4 := Lib.hid hb4
        refine mixQH_mk ⟨_, fx_of hb5⟩ ?_
        have hs6 : w3.heap.size < w4.heap.size := by simp [go_sem] at hs5; omega
        have hne : w3.heap.size ≠ w.heap.size := by omega
        (with_reducible refine wpSeqH_eff ?_ ?_)
        · rfl
        try dsimp only
        go_wp2_with (go_at_call 55; (with_reducible refine (HJ.out _ (I4.glob hI4.out)).mono ?_); rintro e w5 ⟨rfl, XJ, rfl⟩)
        refine mixQH_mk ⟨_, fx_of ((wx_heap _ _ _ hs6).trans hb5)⟩ ?_
        (with_reducible refine wpSeqH_eff ?_ ?_)
        · rfl
        try dsimp only
        go_wp2
        refine mixQH_mk ⟨_, fx_of ((wx_heap _ _ _ (by rw [setCells_size]; exact hs6)).trans ((setCells_heap _ _ _ _ _ hne).trans hb5))⟩ ?_
        refine wpSeqH_nil ?_
        go_wp2
        have hp : ∀ b, p b → b < w.heap.size := fun b => I4.low hI
        have hz : HeldP p w w4 := ⟨by omega, fun b hb => by
          have h1 := hp b hb
          rw [hH4.out.same b (.inl (.inl hb))]
          refine (ex_of_alloc _ _ _ (by omega)).trans ?_
          rw [hH3.out.same b (.inl hb)]
          refine (ex_of_alloc _ _ _ (by omega)).trans ?_
          rw [hH.out.same b (.inl hb)]
          exact ex_of_alloc _ _ _ h1⟩
        obtain ⟨z1, z2, z3⟩ := tree_end I4 (f := dF (nodeD a b)) (w' := wx (w4.setCells w.heap.size 0 (rowB 32 (dF (nodeD a b))).toList) XJ) hp hb4.out hz (I4.grow _ hI4.out (ex_refl _) fun b hb => .inl (.inl hb)) ⟨_, rfl⟩
        exact ret_row (cs := rowB 32 (dF (nodeD a b))) Tryd.results72 Tryd.underlying26 rfl info_id rfl z3 rfl ⟨rfl, z1, z2⟩
end Go.Proofs.YtbobamifpjlmiaaDoor
