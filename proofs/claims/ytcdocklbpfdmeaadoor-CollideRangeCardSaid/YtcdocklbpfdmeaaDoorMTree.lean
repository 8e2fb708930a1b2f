import Derived.Test.YtcdocklbpfdmeaaDoorMLeafR
import Derived.Test.YtcdocklbpfdmeaaDoorMSeqH

/- climb: a tree over pairs, by whatever tells the digests of its parts and keeps a state in memory. -/
set_option linter.unusedSimpArgs false
set_option linter.unusedVariables false
set_option maxRecDepth 20000
namespace Go.Proofs.YtcdocklbpfdmeaaDoor
open Go.RowKit
def treeD {σ : Type} (F : Nat → Nat → σ → Option Dg × σ) (at_ n : Nat) (s : σ) : Dg × σ :=
  match F at_ n s with
  | (some d, s1) => (d, s1)
  | (none, s1) => if h : 2 ≤ n then
      have := split_lt h
      have := split_pos n
      (nodeD (treeD F at_ (splitN n) s1).1 (treeD F (at_ + splitN n) (n - splitN n) (treeD F at_ (splitN n) s1).2).1, (treeD F (at_ + splitN n) (n - splitN n) (treeD F at_ (splitN n) s1).2).2)
    else (zeroD, s1)
termination_by n
theorem tree_done {σ : Type} {F : Nat → Nat → σ → Option Dg × σ} {at_ n : Nat} {s s1 : σ} {d : Dg} (h : F at_ n s = (some d, s1)) : treeD F at_ n s = (d, s1) := by
  unfold treeD; rw [h]
theorem tree_more {σ : Type} {F : Nat → Nat → σ → Option Dg × σ} {at_ n : Nat} {s s1 : σ} (h : F at_ n s = (none, s1)) (h2 : 2 ≤ n) :
    treeD F at_ n s = (nodeD (treeD F at_ (splitN n) s1).1 (treeD F (at_ + splitN n) (n - splitN n) (treeD F at_ (splitN n) s1).2).1, (treeD F (at_ + splitN n) (n - splitN n) (treeD F at_ (splitN n) s1).2).2) := by
  conv => lhs; unfold treeD
  rw [h]
  simp only [dif_pos h2]
theorem tree_Q {σ : Type} (F : Nat → Nat → σ → Option Dg × σ) (Qs : Nat → σ → Prop) (hF : ∀ at_ s, (F at_ 1 s).1.isSome = true) (hQ : ∀ at_ n s, 1 ≤ n → Qs at_ s → (F at_ n s).1.isSome = true → Qs (at_ + n) (F at_ n s).2) (hQ0 : ∀ at_ n s, Qs at_ s → (F at_ n s).1 = none → Qs at_ (F at_ n s).2)
    (n : Nat) : ∀ at_ s, 0 < n → Qs at_ s → Qs (at_ + n) (treeD F at_ n s).2 := by
  induction n using Nat.strongRecOn with
  | ind n ih =>
    intro at_ s h1 hq
    cases hfs : F at_ n s with
    | mk o s1 =>
      cases o with
      | some d =>
        rw [tree_done hfs]
        have := hQ at_ n s h1 hq (by rw [hfs]; rfl)
        rwa [hfs] at this
      | none =>
        have h2 : 2 ≤ n := by
          rcases Nat.lt_or_ge n 2 with h | h
          · obtain rfl : n = 1 := by omega
            have := hF at_ s
            rw [hfs] at this
            cases this
          · exact h
        have hk1 := split_lt h2
        have hk2 := split_pos n
        have hq1 : Qs at_ s1 := by have := hQ0 at_ n s hq (by rw [hfs]); rwa [hfs] at this
        rw [tree_more hfs h2]
        have := ih (n - splitN n) (by omega) (at_ + splitN n) _ (by omega) (ih _ hk1 at_ s1 hk2 hq1)
        rwa [show at_ + splitN n + (n - splitN n) = at_ + n by omega] at this
structure Inv4 {σ : Type} (Inv : (Nat → Prop) → σ → World → Prop) : Prop where
  glob : ∀ {p s w}, Inv p s w → Glob w
  low : ∀ {p s w b}, Inv p s w → p b → b < w.heap.size
  grow : ∀ {p s w} (q : Nat → Prop) {w'}, Inv p s w → Ex w w' → (∀ b, q b → p b ∨ (w.heap.size ≤ b ∧ b < w'.heap.size)) → Inv q s w'
  set : ∀ {p s w b} (o : Nat) (vs : List Value), Inv p s w → p b → Inv p s (w.setCells b o vs)
structure HeldP (p : Nat → Prop) (w w' : World) : Prop where
  size : w.heap.size ≤ w'.heap.size
  same : ∀ b, p b → w'.heap[b]? = w.heap[b]?
def PostC {σ : Type} (Inv : (Nat → Prop) → σ → World → Prop) (p : Nat → Prop) (s : σ) (w : World) (v : Value) (e : Ending) (w' : World) : Prop := e = .returned v ∧ HeldP p w w' ∧ Inv p s w'
theorem ex_of_alloc (w : World) (ob : Obj) (b : Nat) (h : b < w.heap.size) : (w.alloc ob).heap[b]? = w.heap[b]? := by
  show (w.heap.push ob)[b]? = _
  rw [Array.getElem?_push, if_neg (by omega)]
theorem block_cells {w : World} {b n : Nat} {cs : Array Value} {t : TypeId} (h : w.heap[b]? = some (.cells cs t (0, 0))) (hn : cs.size = n) : cellsN w b 0 n = some cs ∧ frozenN w b 0 n = false ∧ b < w.heap.size := by
  subst hn
  refine ⟨cellsN_some.2 ⟨rfl, fun j hj => ?_⟩, frozenN_false.2 fun j hj => ?_, (Array.getElem?_eq_some_iff.1 h).1⟩
  · rw [Nat.zero_add, cell_of_row w b j cs t (0, 0) h]
  · simp [World.frozen?, h]
theorem held_new {p : Nat → Prop} {w w2 : World} {ob : Obj} (h : HeldP (fun b => p b ∨ b = w.heap.size) (w.alloc ob) w2) : w2.heap[w.heap.size]? = some ob :=
  (h.same _ (.inr rfl)).trans (heap_alloc_new w ob)
theorem held_old {p : Nat → Prop} {w w2 : World} {ob : Obj} (h : HeldP (fun b => p b ∨ b = w.heap.size) (w.alloc ob) w2) (hp : ∀ b, p b → b < w.heap.size) : HeldP p w w2 :=
  ⟨by have := h.size; simp [go_sem] at this; omega, fun b hb => by
    rw [h.same b (.inl hb)]
    have := hp b hb
    exact (ex_of_alloc w ob b this)⟩
theorem splice_row (f g : Nat → UInt8) : spliceA (rowB 32 g) 0 (rowB 32 f).toList = rowB 32 f := by
  apply arr_ext; intro j
  rw [spliceA_get]
  by_cases h : j < 32
  · rw [if_pos ⟨by omega, by simp; omega, by simp; exact h⟩, Nat.sub_zero, Array.getElem?_toList]
  · rw [if_neg (by simp; omega), rowB_get, rowB_get, if_neg h, if_neg h]
theorem tree_end {σ : Type} {Inv : (Nat → Prop) → σ → World → Prop} (I4 : Inv4 Inv) {p : Nat → Prop} {s : σ} {w w4 w' : World} {f g : Nat → UInt8} {t : TypeId} (hp : ∀ b, p b → b < w.heap.size) (hb : w4.heap[w.heap.size]? = some (.cells (rowB 32 g) t (0, 0)))
    (hH : HeldP p w w4) (hI : Inv (fun b => p b ∨ b = w.heap.size) s w4) (k : Ex (w4.setCells w.heap.size 0 (rowB 32 f).toList) w') : HeldP p w w' ∧ Inv p s w' ∧ cellsN w' w.heap.size 0 32 = some (rowB 32 f) := by
  have hsz : (w4.setCells w.heap.size 0 (rowB 32 f).toList).heap.size = w4.heap.size := setCells_size _ _ _ _
  have hlt := (block_cells (n := 32) hb (by simp)).2.2
  refine ⟨⟨?_, fun b hpb => ?_⟩, ?_, ?_⟩
  · have := ex_size k
    have := hH.size
    omega
  · have h1 := hp b hpb
    have h2 := hH.size
    rw [← hH.same b hpb]
    obtain ⟨X, rfl⟩ := k
    rw [wx_heap _ _ _ (by omega), setCells_heap _ _ _ _ _ (by omega)]
  · exact I4.grow _ (I4.set 0 _ hI (.inr rfl)) k fun b hb => .inl (.inl hb)
  · have h3 := setCells_block w.heap.size t (0, 0) (rowB 32 f).toList 0 w4 (rowB 32 g) hb
    rw [splice_row] at h3
    exact (block_cells (ex_block k h3) (by simp)).1
set_option maxHeartbeats 1000000 in
theorem climbT_any {σ : Type} {Inv : (Nat → Prop) → σ → World → Prop} (I4 : Inv4 Inv) (F : Nat → Nat → σ → Option Dg × σ) (f : Nat) (cap : Array Value) (M : Nat) (hM : M ≤ 1000)
    (hf : ∀ args w, (callFunc f args).run Tryd.prog w = .ok (.enter f args) w) (hF : ∀ at_ s, (F at_ 1 s).1.isSome = true)
    (Qs : Nat → σ → Prop) (hQ : ∀ at_ n s, 1 ≤ n → Qs at_ s → (F at_ n s).1.isSome = true → Qs (at_ + n) (F at_ n s).2) (hQ0 : ∀ at_ n s, Qs at_ s → (F at_ n s).1 = none → Qs at_ (F at_ n s).2)
    (hC : ∀ p (at_ n : Nat) s w, 1 ≤ n → at_ + n ≤ M → Qs at_ s → Inv p s w → Calls Tryd.prog f (#[I at_, I n] ++ cap) w (PostC Inv p (F at_ n s).2 w (.tuple #[.agg (rowB 32 (dF ((F at_ n s).1.getD zeroD))), .bool (F at_ n s).1.isSome]))) (n : Nat) :
    ∀ (at_ : Nat) (s : σ) (p : Nat → Prop) (w : World), 1 ≤ n → at_ + n ≤ M → Qs at_ s → Inv p s w →
      Calls Tryd.prog 64 #[I at_, I n, .func (.func f) #[] cap] w (PostC Inv p (treeD F at_ n s).2 w (.agg (rowB 32 (dF (treeD F at_ n s).1)))) := by
  induction n using Nat.strongRecOn with
  | ind n ih =>
    intro at_ s p w h1 hat hq hI
    have hc := hC (fun b => p b ∨ b = w.heap.size) at_ n s (w.alloc (.cells (rowB 32 fun _ => 0) 46)) h1 hat hq (I4.grow _ hI (ex_alloc (ex_refl _) _) (fun b hb => by rcases hb with hb | rfl; exact .inl hb; exact .inr ⟨Nat.le_refl _, by simp [go_sem]⟩))
    have HC := Lib.hid hc
    cases hfs : F at_ n s with
    | mk o s1 =>
      rw [hfs] at HC
      cases o with
      | some d =>
        rw [tree_done hfs]
        clear ih hfs hc hC hF hQ hQ0 hq
        simp only [Option.getD_some, Option.isSome_some] at HC ⊢
        go_enter Tryd.func64, Tryd.ntmps64
        go_wp2_with ((with_reducible refine (HC.out).mono ?_); rintro e w2 ⟨rfl, hH, hI2⟩; obtain ⟨r1, r2, r3⟩ := block_cells (n := 32) (held_new hH) (by simp); replace hH := Lib.hid hH; replace hI2 := Lib.hid hI2)
        obtain ⟨z1, z2, z3⟩ := tree_end I4 (f := dF d) (w' := (w2.setCells w.heap.size 0 (rowB 32 (dF d)).toList).alloc (.cells (rowB 32 (dF d)) 46)) (fun b => I4.low hI) (held_new hH.out) (held_old hH.out fun b => I4.low hI) hI2.out (by (try show Ex _ _); with_reducible repeat (first | exact ex_refl _ | assumption | refine ex_drewL ?_ | refine ex_appR ?_ _ | refine ex_wx ?_ _ | refine ex_drew ?_ | refine ex_alloc ?_ _))
        exact ret_row (cs := rowB 32 (dF d)) Tryd.results64 Tryd.underlying46 rfl info_id rfl z3 rfl ⟨rfl, z1, z2⟩
      | none =>
        have h2 : 2 ≤ n := by
          rcases Nat.lt_or_ge n 2 with h | h
          · obtain rfl : n = 1 := by omega
            have := hF at_ s
            rw [hfs] at this
            cases this
          · exact h
        have hk1 := split_lt h2
        have hk2 := split_pos n
        rw [tree_more hfs h2]
        have hq1 : Qs at_ s1 := by have := hQ0 at_ n s hq (by rw [hfs]); rwa [hfs] at this
        have hq2 := tree_Q F Qs hF hQ hQ0 (splitN n) at_ s1 hk2 hq1
        have HS := Lib.hid (fun w => half_any n w h2 (by omega))
        simp only [Option.getD_none, Option.isSome_none] at HC
        rw [row_zero] at HC
        have HT1 : Hid (∀ w2 w', Inv (fun b => p b ∨ b = w.heap.size) s1 w2 → Ex w2 w' → Calls Tryd.prog 64 #[I at_, I (splitN n), .func (.func f) #[] cap] w' (PostC Inv (fun b => p b ∨ b = w.heap.size) (treeD F at_ (splitN n) s1).2 w' (.agg (rowB 32 (dF (treeD F at_ (splitN n) s1).1))))) :=
          Lib.hid fun w2 w' hi k => ih _ hk1 at_ s1 _ w' hk2 (by omega) hq1 (I4.grow _ hi k fun b hb => .inl hb)
        have HT2 : Hid (∀ w3 w', Inv (fun b => p b ∨ b = w.heap.size) (treeD F at_ (splitN n) s1).2 w3 → Ex w3 w' → w3.heap.size < w'.heap.size → Calls Tryd.prog 64 #[I ((at_ : Int) + splitN n), I ((n : Int) - splitN n), .func (.func f) #[] cap] w' (PostC Inv (fun b => (p b ∨ b = w.heap.size) ∨ b = w3.heap.size) (treeD F (at_ + splitN n) (n - splitN n) (treeD F at_ (splitN n) s1).2).2 w' (.agg (rowB 32 (dF (treeD F (at_ + splitN n) (n - splitN n) (treeD F at_ (splitN n) s1).2).1))))) :=
          Lib.hid fun w3 w' hi k hlt => by
            have := ih (n - splitN n) (by omega) (at_ + splitN n) (treeD F at_ (splitN n) s1).2 (fun b => (p b ∨ b = w.heap.size) ∨ b = w3.heap.size) w' (by omega) (by omega) hq2 (I4.grow _ hi k fun b hb => by
              rcases hb with hb | rfl
              · exact .inl hb
              · exact .inr ⟨Nat.le_refl _, hlt⟩)
            rwa [show ((at_ + splitN n : Nat) : Int) = (at_ : Int) + splitN n by omega, show ((n - splitN n : Nat) : Int) = (n : Int) - splitN n by omega] at this
        generalize treeD F (at_ + splitN n) (n - splitN n) (treeD F at_ (splitN n) s1).2 = r2 at HT2 ⊢
        generalize treeD F at_ (splitN n) s1 = r1 at HT1 HT2 ⊢
        obtain ⟨a, s2⟩ := r1
        obtain ⟨b, s3⟩ := r2
        simp only at HT1 HT2 ⊢
        have HJ : Hid (∀ w', Glob w' → Calls Tryd.prog 103 #[.agg (rowB 32 (dF a)), .agg (rowB 32 (dF b))] w' (Post w' (.agg (rowB 32 (dF (nodeD a b)))))) := Lib.hid fun w' G => sjoin_any G a b w' (ex_refl _)
        generalize splitN n = k at HS HT1 HT2 hk1 hk2
        clear ih hc hF hfs hC hQ hQ0 hq hq1 hq2
        go_enter Tryd.func64, Tryd.ntmps64
        go_wp2_with (first | (go_at_call 102; refine (HS.out _).mono ?_; rintro e w' ⟨rfl, rfl⟩) | (go_at_call 64; (with_reducible refine (HT1.out _ _ hI2.out (by (try show Ex _ _); with_reducible repeat (first | exact ex_refl _ | assumption | refine ex_drewL ?_ | refine ex_appR ?_ _ | refine ex_wx ?_ _ | refine ex_drew ?_ | refine ex_alloc ?_ _))).mono ?_); rintro e w3 ⟨rfl, hH3, hI3⟩; replace hH3 := Lib.hid hH3; replace hI3 := Lib.hid hI3) | ((with_reducible refine (HC.out).mono ?_); rintro e w2 ⟨rfl, hH, hI2⟩; obtain ⟨r1, r2, r3⟩ := block_cells (n := 32) (held_new hH) (by simp); replace hH := Lib.hid hH; replace hI2 := Lib.hid hI2))
        have hb2 := held_new hH.out
        have hb3 : w3.heap[w.heap.size]? = some (.cells (rowB 32 fun _ => 0) 46 (0, 0)) := by
          rw [hH3.out.same _ (.inr rfl), ex_of_alloc _ _ _ r3]; exact hb2
        have r5 := (block_cells (n := 32) hb3 (by simp)).2.2
        replace hb2 := Lib.hid hb2
        replace hb3 := Lib.hid hb3
        clear r1 r2
        refine wp_region_seqH (fun w' => ∃ X, w' = fx (w3.alloc (.cells (rowB 32 (dF a)) 46)) w3.heap.size X) [(0, true), (1, true), (2, true), (3, true), (4, true), (5, true), (6, true), (7, true), (8, false), (9, false), (10, false)] ?_ (by kernel_rfl) (by kernel_rfl) (fun _ _ d _ _ h => by cases d <;> exact h) ?_
        · exact ⟨_, fx_of rfl⟩
        simp only [List.map_cons, List.map_nil, nth]
        repeat ((with_reducible refine wpSeqH_look ?_); go_big_quiet_step (fail); (with_reducible refine wpQuiet_nil ?_))
        (with_reducible refine wpSeqH_eff ?_ ?_)
        · rfl
        try dsimp only
        go_wp2_with ((with_reducible refine (HT2.out _ _ hI3.out (by (try show Ex _ _); with_reducible repeat (first | exact ex_refl _ | assumption | refine ex_drewL ?_ | refine ex_appR ?_ _ | refine ex_wx ?_ _ | refine ex_drew ?_ | refine ex_alloc ?_ _)) (by simp [go_sem])).mono ?_); rintro e w4 ⟨rfl, hH4, hI4⟩)
        have hb4 : w4.heap[w.heap.size]? = some (.cells (rowB 32 fun _ => 0) 46 (0, 0)) := by
          rw [hH4.same _ (.inl (.inr rfl))]
          exact (ex_of_alloc _ _ _ r5).trans hb3.out
        have hb5 : w4.heap[w3.heap.size]? = (w3.alloc (.cells (rowB 32 (dF a)) 46)).heap[w3.heap.size]? := hH4.same _ (.inr rfl)
        have hs5 := hH4.size
        obtain ⟨q1, q2, q3⟩ := block_cells (n := 32) hb4 (by simp)
        replace hH4 := Lib.hid hH4
        replace hI4 := Lib.hid hI4
        replace hb4 := Lib.hid hb4
        refine mixQH_mk ⟨_, fx_of hb5⟩ ?_
        have hs6 : w3.heap.size < w4.heap.size := by simp [go_sem] at hs5; omega
        have hne : w3.heap.size ≠ w.heap.size := by omega
        (with_reducible refine wpSeqH_eff ?_ ?_)
        · rfl
        try dsimp only
        go_wp2_with (go_at_call 103; (with_reducible refine (HJ.out _ (I4.glob hI4.out)).mono ?_); rintro e w5 ⟨rfl, XJ, rfl⟩)
        refine mixQH_mk ⟨_, fx_of ((wx_heap _ _ _ hs6).trans hb5)⟩ ?_
        (with_reducible refine wpSeqH_eff ?_ ?_)
        · rfl
        try dsimp only
        go_wp2
        refine mixQH_mk ⟨_, fx_of ((wx_heap _ _ _ (by rw [setCells_size]; exact hs6)).trans ((setCells_heap _ _ _ _ _ hne).trans hb5))⟩ ?_
        refine wpSeqH_nil ?_
        go_wp2
        have hp : ∀ b, p b → b < w.heap.size := fun b => I4.low hI
        have hz : HeldP p w w4 := ⟨by omega, fun b hb => by
          have h1 := hp b hb
          rw [hH4.out.same b (.inl (.inl hb))]
          refine (ex_of_alloc _ _ _ (by omega)).trans ?_
          rw [hH3.out.same b (.inl hb)]
          refine (ex_of_alloc _ _ _ (by omega)).trans ?_
          rw [hH.out.same b (.inl hb)]
          exact ex_of_alloc _ _ _ h1⟩
        obtain ⟨z1, z2, z3⟩ := tree_end I4 (f := dF (nodeD a b)) (w' := wx (w4.setCells w.heap.size 0 (rowB 32 (dF (nodeD a b))).toList) XJ) hp hb4.out hz (I4.grow _ hI4.out (ex_refl _) fun b hb => .inl (.inl hb)) ⟨_, rfl⟩
        exact ret_row (cs := rowB 32 (dF (nodeD a b))) Tryd.results64 Tryd.underlying46 rfl info_id rfl z3 rfl ⟨rfl, z1, z2⟩
end Go.Proofs.YtcdocklbpfdmeaaDoor

/- Root of pairs. -/
set_option linter.unusedSimpArgs false
set_option linter.unusedVariables false
set_option maxRecDepth 20000
namespace Go.Proofs.YtcdocklbpfdmeaaDoor
open Go.RowKit
theorem held_ex {p : Nat → Prop} {w w' : World} (k : Ex w w') (hp : ∀ b, p b → b < w.heap.size) : HeldP p w w' :=
  ⟨ex_size k, fun b hb => by obtain ⟨X, rfl⟩ := k; exact wx_heap _ _ _ (hp b hb)⟩
theorem ex_setCells {A w : World} (k : Ex A w) {b : Nat} (hb : A.heap.size ≤ b) (o : Nat) (vs : List Value) : Ex A (w.setCells b o vs) :=
  ex_of_below ((ex_below k).trans (setCells_below hb vs o w))
/-- What only makes: nothing that stood turns. -/
def InvE (A : World) (p : Nat → Prop) (_ : Unit) (w : World) : Prop := Ex A w ∧ ∀ b, p b → A.heap.size ≤ b ∧ b < w.heap.size
theorem invE_ok {A : World} (G : Glob A) : Inv4 (InvE A) where
  glob := fun h => G.ex h.1
  low := fun h hb => (h.2 _ hb).2
  grow := fun q w' h k hq => ⟨ex_trans h.1 k, fun b hb => by
    have h1 := ex_size h.1
    have h2 := ex_size k
    rcases hq b hb with h3 | ⟨h3, h4⟩
    · have := h.2 b h3
      omega
    · omega⟩
  set := fun o vs h hb => ⟨ex_setCells h.1 (h.2 _ hb).1 o vs, fun b hb2 => by rw [setCells_size]; exact h.2 b hb2⟩
def FW (l : List Pr) (at_ n : Nat) (_ : Unit) : Option Dg × Unit := (if 1 < n then none else some (leafP (prAt l at_)), ())
theorem treeW (l : List Pr) (n : Nat) : ∀ at_, 1 ≤ n → at_ + n ≤ l.length → treeD (FW l) at_ n () = (topP ((l.drop at_).take n), ()) := by
  induction n using Nat.strongRecOn with
  | ind n ih =>
    intro at_ h1 h2
    by_cases hn : 1 < n
    · have k1 := split_lt (n := n) hn
      have k2 := split_pos n
      rw [tree_more (s1 := ()) (by unfold FW; rw [if_pos hn]) hn, ih _ k1 at_ k2 (by omega), ih _ (by omega) (at_ + splitN n) (by omega) (by omega)]
      have hl : ((l.drop at_).take n).length = n := by rw [List.length_take, List.length_drop]; omega
      rw [topP_two (l := (l.drop at_).take n) (by omega), hl]
      rw [List.take_take, Nat.min_eq_left (by omega), List.drop_take, List.drop_drop]
    · obtain rfl : n = 1 := by omega
      rw [tree_done (d := leafP (prAt l at_)) (s1 := ()) (by unfold FW; rw [if_neg hn])]
      have : (l.drop at_).take 1 = [prAt l at_] := by
        rw [List.take_one, List.head?_drop, prAt_get (by omega)]; rfl
      rw [this, topP_one]
set_option maxHeartbeats 1000000 in
theorem whole1_any {A : World} (G : Glob A) (l : List Pr) (a : Option Addr) (c bl : Nat) (hc : l.length ≤ c) (hcm : c ≤ maxLen) (hs : SlP A a l) (hb : A.cell? ⟨bl, 0, none⟩ = some (.slice a l.length c)) (hbl : bl < A.heap.size)
    (at_ n : Nat) (h1 : 1 ≤ n) (hat : at_ + n ≤ l.length) (w : World) (k : Ex A w) :
    Calls Tryd.prog 104 #[I at_, I n, .pointer (some ⟨bl, 0, none⟩)] w (Post w (.tuple #[.agg (rowB 32 (dF ((FW l at_ n ()).1.getD zeroD))), .bool (FW l at_ n ()).1.isSome])) := by
  unfold maxLen at hcm
  have hb2 : w.cell? ⟨bl, 0, none⟩ = some (.slice a l.length c) ∧ bl < w.heap.size := by
    obtain ⟨X, rfl⟩ := k
    exact ⟨by rw [wx_cell _ _ _ hbl]; exact hb, by rw [wx_size]; omega⟩
  obtain ⟨hb2, hbl2⟩ := hb2
  clear hb hbl
  by_cases hn : 1 < n
  · have hn' : (1 : Int) < n := by omega
    have hx : FW l at_ n () = (none, ()) := by unfold FW; rw [if_pos hn]
    rw [hx]
    simp only [Option.getD_none, Option.isSome_none]
    rw [row_zero]
    clear hx hs
    go_enter Tryd.func104, Tryd.ntmps104
    go_wp2
    exact ret_rowV (cs := rowB 32 fun _ => 0) (v := .bool false) Tryd.results104 Tryd.underlying46 rfl info_id rfl (by simp [go_sem]) rfl rfl (post_mk rfl (by (try show Ex _ _); with_reducible repeat (first | exact ex_refl _ | assumption | refine ex_drewL ?_ | refine ex_appR ?_ _ | refine ex_wx ?_ _ | refine ex_drew ?_ | refine ex_alloc ?_ _)))
  · obtain rfl : n = 1 := by omega
    have hx : FW l at_ 1 () = (some (leafP (prAt l at_)), ()) := by unfold FW; rw [if_neg (by omega)]
    rw [hx]
    simp only [Option.getD_some, Option.isSome_some]
    obtain ⟨g, off, rfl, hg, hrow, r1, r2⟩ := (hs.ex k).row (i := at_) (by omega)
    have HL := Lib.hid (fun w' (k' : Ex A w') => sleaf_any G (prAt l at_) w' k')
    have HLp := HL
    have e1 : (at_ : Int) < l.length := by omega
    generalize l.length = L at hc hb2 e1
    unfold PC at HL
    generalize prAt l at_ = p at r1 r2 hrow HL HLp ⊢
    generalize leafP p = z at HL HLp ⊢
    obtain ⟨s, t⟩ := p
    simp only at r1 r2 HL
    clear hx hs hat
    go_enter Tryd.func104, Tryd.ntmps104
    go_wp2_with (first | (go_at_call 105; (with_reducible refine (HL.out _ (by (try show Ex _ _); with_reducible repeat (first | exact ex_refl _ | assumption | refine ex_drewL ?_ | refine ex_appR ?_ _ | refine ex_wx ?_ _ | refine ex_drew ?_ | refine ex_alloc ?_ _))).mono ?_); rintro e w2 ⟨rfl, X, rfl⟩) | (go_at_call 105; (with_reducible refine (HLp.out _ (by (try show Ex _ _); with_reducible repeat (first | exact ex_refl _ | assumption | refine ex_drewL ?_ | refine ex_appR ?_ _ | refine ex_wx ?_ _ | refine ex_drew ?_ | refine ex_alloc ?_ _))).mono ?_); rintro e w2 ⟨rfl, X, rfl⟩))
    exact ret_rowV (cs := rowB 32 (dF z)) (v := .bool true) Tryd.results104 Tryd.underlying46 rfl info_id rfl (by first | (simp [go_sem]; done) | rfl) rfl rfl (post_mk rfl (by (try show Ex _ _); with_reducible repeat (first | exact ex_refl _ | assumption | refine ex_drewL ?_ | refine ex_appR ?_ _ | refine ex_wx ?_ _ | refine ex_drew ?_ | refine ex_alloc ?_ _)))
theorem climbW_any (l : List Pr) (a : Option Addr) (c bl : Nat) (w : World) (G : Glob w) (hL : l.length ≤ 1000) (hc : l.length ≤ c) (hcm : c ≤ maxLen) (hs : SlP w a l) (hb : w.cell? ⟨bl, 0, none⟩ = some (.slice a l.length c)) (hbl : bl < w.heap.size)
    (at_ n : Nat) (h1 : 1 ≤ n) (hat : at_ + n ≤ l.length) :
    Calls Tryd.prog 64 #[I at_, I n, .func (.func 104) #[] #[.pointer (some ⟨bl, 0, none⟩)]] w (Post w (.agg (rowB 32 (dF (topP ((l.drop at_).take n)))))) := by
  have h := climbT_any (invE_ok G) (FW l) 104 #[.pointer (some ⟨bl, 0, none⟩)] l.length hL (fun _ _ => by first | (simp [go_sem]; done) | rfl) (fun _ _ => rfl) (fun _ _ => True) (fun _ _ _ _ _ _ => trivial) (fun _ _ _ _ _ => trivial)
    (fun p at_ n s w' h1 hat _ hI => (whole1_any G l a c bl hc hcm hs hb hbl at_ n h1 hat w' hI.1).mono fun e w2 ⟨he, k⟩ => ⟨he, held_ex k fun b hb => (hI.2 b hb).2, (invE_ok G).grow _ hI k fun b hb => .inl hb⟩) n at_ () (fun _ => False) w h1 hat trivial ⟨ex_refl w, fun _ h => h.elim⟩
  rw [treeW l n at_ h1 hat] at h
  exact h.mono fun e w' ⟨h2, _, h3⟩ => ⟨h2, h3.1⟩
theorem whole_any (a : Option Addr) (n c : Nat) (w : World) : Calls Tryd.prog 65 #[.slice a n c] w fun e w' => e = .returned (.func (.func 104) #[] #[.pointer (some ⟨w.heap.size, 0, none⟩)]) ∧ w' = w.alloc (.cells #[.slice a n c] 22) := by
  have hmf : ∀ (fn : Fn) (first cap : Array Value) (w : World), (Instr.makeFunc fn first cap).run Tryd.prog w = .ok (.func fn first cap) w := fun _ _ _ _ => rfl
  go_enter Tryd.func65, Tryd.ntmps65
  go_wp2
  go_ret
  exact ⟨rfl, rfl⟩
end Go.Proofs.YtcdocklbpfdmeaaDoor

/- Root of pairs: both texts. -/
set_option linter.unusedSimpArgs false
set_option linter.unusedVariables false
set_option maxRecDepth 20000
namespace Go.Proofs.YtcdocklbpfdmeaaDoor
open Go.RowKit
@[go_sem] theorem lit_z32 : Value.agg #[.int .u8 0, .int .u8 0, .int .u8 0, .int .u8 0, .int .u8 0, .int .u8 0, .int .u8 0, .int .u8 0, .int .u8 0, .int .u8 0, .int .u8 0, .int .u8 0, .int .u8 0, .int .u8 0, .int .u8 0, .int .u8 0, .int .u8 0, .int .u8 0, .int .u8 0, .int .u8 0, .int .u8 0, .int .u8 0, .int .u8 0, .int .u8 0, .int .u8 0, .int .u8 0, .int .u8 0, .int .u8 0, .int .u8 0, .int .u8 0, .int .u8 0, .int .u8 0] = .agg (rowB 32 fun _ => 0) := by kernel_rfl
theorem ex_cell {A w : World} (k : Ex A w) {a : Addr} {v : Value} (h : A.cell? a = some v) (hb : a.block < A.heap.size) : w.cell? a = some v := by
  obtain ⟨X, rfl⟩ := k; rw [wx_cell _ _ _ hb]; exact h
theorem right_len {l : List Pr} (h : rightP l = true) : l.length ≤ 200 := by
  rcases Nat.lt_or_ge 200 l.length with h2 | h2
  · have := right_iff.1 h 200 h2
    simp [badAt] at this
  · exact h2
theorem right_size {l : List Pr} (h : rightP l = true) {i : Nat} (hi : i < l.length) : 1 ≤ (prAt l i).1.size ∧ (prAt l i).1.size ≤ 200 ∧ (prAt l i).2.size ≤ 1000 := by
  have h1 := right_iff.1 h i hi
  have h2 : ¬ ((prAt l i).1.size < 1 ∨ 200 < (prAt l i).1.size ∨ 1000 < (prAt l i).2.size ∨ (0 < i ∧ ltS (prAt l (i - 1)).1 (prAt l i).1 = false) ∨ i = 200) := fun hc => by
    rw [(bad_iff l i).2 hc] at h1; cases h1
  omega
/-- A closure over pairs that was made. -/
def PostWh (a : Option Addr) (n c : Nat) (W : World) (e : Ending) (w' : World) : Prop := ∃ b, e = .returned (.func (.func 104) #[] #[.pointer (some ⟨b, 0, none⟩)]) ∧ w'.cell? ⟨b, 0, none⟩ = some (.slice a n c) ∧ b < w'.heap.size ∧ ∃ X, w' = wx W X
theorem whole_post (a : Option Addr) (n c : Nat) (w : World) : Calls Tryd.prog 65 #[.slice a n c] w (PostWh a n c w) :=
  (whole_any a n c w).mono fun e w' ⟨h1, h2⟩ => ⟨w.heap.size, h1, by subst h2; simp [go_sem], by subst h2; simp [go_sem], by subst h2; exact (by (try show Ex _ _); with_reducible repeat (first | exact ex_refl _ | assumption | refine ex_drewL ?_ | refine ex_appR ?_ _ | refine ex_wx ?_ _ | refine ex_drew ?_ | refine ex_alloc ?_ _))⟩
def rootR (l : List Pr) : Dg := if rightP l then rootP l else zeroD
set_option maxHeartbeats 1000000 in
theorem sroot_any {w0 : World} (G : Glob w0) (l : List Pr) (a : Option Addr) (c : Nat) (w : World) (k0 : Ex w0 w) (hc : l.length ≤ c) (hcm : c ≤ maxLen) (hs : SlP w a l) :
    Calls Tryd.prog 19 #[.slice a l.length c] w (Post w (.tuple #[.agg (rowB 32 (dF (rootR l))), I (chkP l)])) := by
  replace G := G.ex k0
  clear k0
  have HC : Hid (∀ w', Ex w w' → Calls Tryd.prog 62 #[.slice a l.length c] w' (Post w' (I (chkP l)))) := Lib.hid fun w' k => Check_any l a c w' hc hcm (hs.ex k)
  unfold rootR
  unfold chkP at HC ⊢
  cases hr : rightP l with
  | false =>
    rw [hr] at HC
    simp only [Bool.false_eq_true, if_false] at HC ⊢
    rw [row_zero]
    generalize l.length = n at HC hc
    clear hs hr
    go_enter Tryd.func19, Tryd.ntmps19
    go_wp2_with (go_at_call 62; (with_reducible refine (HC.out _ (by (try show Ex _ _); with_reducible repeat (first | exact ex_refl _ | assumption | refine ex_drewL ?_ | refine ex_appR ?_ _ | refine ex_wx ?_ _ | refine ex_drew ?_ | refine ex_alloc ?_ _))).mono ?_); rintro e w2 ⟨rfl, X, rfl⟩)
    exact ret_rowV (cs := rowB 32 fun _ => 0) (v := I 250) Tryd.results19 Tryd.underlying46 rfl info_id rfl (by simp [go_sem]) rfl rfl (post_mk rfl (by (try show Ex _ _); with_reducible repeat (first | exact ex_refl _ | assumption | refine ex_drewL ?_ | refine ex_appR ?_ _ | refine ex_wx ?_ _ | refine ex_drew ?_ | refine ex_alloc ?_ _)))
  | true =>
    rw [hr] at HC
    simp only [if_true] at HC ⊢
    have hl2 := right_len hr
    clear hr
    rcases Nat.eq_zero_or_pos l.length with h0 | hpos
    · obtain rfl := List.eq_nil_of_length_eq_zero h0
      have HK := Lib.hid (fun w' (k : Ex w w') => scrown_any G 0 zeroD w' k)
      have hR : crownD 0 zeroD = rootP [] := rfl
      rw [hR, row_zero] at HK
      generalize rootP [] = R at HK ⊢
      rw [List.length_nil] at HC ⊢
      clear hs hR h0
      go_enter Tryd.func19, Tryd.ntmps19
      go_wp2_with (first | (go_at_call 62; (with_reducible refine (HC.out _ (by (try show Ex _ _); with_reducible repeat (first | exact ex_refl _ | assumption | refine ex_drewL ?_ | refine ex_appR ?_ _ | refine ex_wx ?_ _ | refine ex_drew ?_ | refine ex_alloc ?_ _))).mono ?_); rintro e w2 ⟨rfl, X, rfl⟩) | (go_at_call 63; (with_reducible refine (HK.out _ (by (try show Ex _ _); with_reducible repeat (first | exact ex_refl _ | assumption | refine ex_drewL ?_ | refine ex_appR ?_ _ | refine ex_wx ?_ _ | refine ex_drew ?_ | refine ex_alloc ?_ _))).mono ?_); rintro e w2 ⟨rfl, X, rfl⟩))
      exact ret_rowV (cs := rowB 32 (dF R)) (v := I 0) Tryd.results19 Tryd.underlying46 rfl info_id rfl (by simp [go_sem]) rfl rfl (post_mk rfl (by (try show Ex _ _); with_reducible repeat (first | exact ex_refl _ | assumption | refine ex_drewL ?_ | refine ex_appR ?_ _ | refine ex_wx ?_ _ | refine ex_drew ?_ | refine ex_alloc ?_ _)))
    · have HK := Lib.hid (fun w' (k : Ex w w') => scrown_any G l.length (topP l) w' k)
      have hR : crownD l.length (topP l) = rootP l := rfl
      rw [hR] at HK
      have hW : Hid (∀ W b, Ex w W → W.cell? ⟨b, 0, none⟩ = some (.slice a l.length c) → b < W.heap.size → Calls Tryd.prog 64 #[I 0, I l.length, .func (.func 104) #[] #[.pointer (some ⟨b, 0, none⟩)]] W (Post W (.agg (rowB 32 (dF (topP l)))))) := Lib.hid fun W b k h1 h2 => by
        have := climbW_any l a c b W (G.ex k) (by omega) hc hcm (hs.ex k) h1 h2 0 l.length hpos (by omega)
        rwa [List.drop_zero, List.take_length] at this
      generalize rootP l = R at HK ⊢
      generalize topP l = T at HK hW
      generalize l.length = n at HC hc HK hW hpos hl2
      clear hs hR
      have e0 : ((n : Int) == 0) = false := beq_eq_false_iff_ne.2 (by omega)
      have HWh := Lib.hid (fun w' => whole_post a n c w')
      go_enter Tryd.func19, Tryd.ntmps19
      go_wp2_with (first | (go_at_call 62; (with_reducible refine (HC.out _ (by (try show Ex _ _); with_reducible repeat (first | exact ex_refl _ | assumption | refine ex_drewL ?_ | refine ex_appR ?_ _ | refine ex_wx ?_ _ | refine ex_drew ?_ | refine ex_alloc ?_ _))).mono ?_); rintro e w2 ⟨rfl, X, rfl⟩) | (go_at_call 63; (with_reducible refine (HK.out _ (by (try show Ex _ _); with_reducible repeat (first | exact ex_refl _ | assumption | refine ex_drewL ?_ | refine ex_appR ?_ _ | refine ex_wx ?_ _ | refine ex_drew ?_ | refine ex_alloc ?_ _))).mono ?_); rintro e w2 ⟨rfl, X, rfl⟩) | (go_at_call 65; (with_reducible refine (HWh.out _).mono ?_); rintro e w2 ⟨b, rfl, kb1, kb2, X2, rfl⟩; (try simp only [wx_wx] at kb1 kb2)) | (go_at_call 64; (with_reducible refine (hW.out _ _ (by (try show Ex _ _); with_reducible repeat (first | exact ex_refl _ | assumption | refine ex_drewL ?_ | refine ex_appR ?_ _ | refine ex_wx ?_ _ | refine ex_drew ?_ | refine ex_alloc ?_ _)) kb1 kb2).mono ?_); rintro e w2 ⟨rfl, X3, rfl⟩))
      exact ret_rowV (cs := rowB 32 (dF R)) (v := I 0) Tryd.results19 Tryd.underlying46 rfl info_id rfl (by simp [go_sem]) rfl rfl (post_mk rfl (by (try show Ex _ _); with_reducible repeat (first | exact ex_refl _ | assumption | refine ex_drewL ?_ | refine ex_appR ?_ _ | refine ex_wx ?_ _ | refine ex_drew ?_ | refine ex_alloc ?_ _)))
end Go.Proofs.YtcdocklbpfdmeaaDoor
