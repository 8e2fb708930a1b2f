import Derived.Test.YtcdocklbpfdmeaaDoorMTwo
import Derived.Test.YtcdocklbpfdmeaaDoorMBits
import Derived.Test.YtcdocklbpfdmeaaDoorMSeqH

/- The document's leaf. -/
set_option linter.unusedSimpArgs false
set_option linter.unusedVariables false
set_option maxRecDepth 20000
namespace Go.Proofs.YtcdocklbpfdmeaaDoor
open Go.RowKit
@[go_sem high] theorem conv_su8 (s : ByteArray) (w : World) : (convert 9 35 (.string s)).run Tryd.prog w = .ok (.slice (some ⟨w.heap.size, 0, none⟩) s.size (grownCap w s.size 0 5))
      (w.drew.alloc (.cells (bytesRow s (grownCap w s.size 0 5)) 5 ((bytesRow s (grownCap w s.size 0 5)).size, (bytesRow s (grownCap w s.size 0 5)).size + 1))) :=
  run_bytes_of_string w _ _ 5 s Tryd.underlying9 Tryd.underlying35 Tryd.underlying5
theorem bytesRow_at (s : ByteArray) (cap j : Nat) (hj : j < s.data.toList.length) : (bytesRow s cap)[j]? = some (B (gF s.data.toList j)) := by
  unfold bytesRow gF
  have hj2 : j < s.data.size := by simpa using hj
  rw [Array.getElem?_append_left (by simpa using hj2), List.getD_eq_getElem?_getD, Array.getElem?_toList, Array.getElem?_map, Array.getElem?_eq_getElem hj2]
  rfl
theorem sls_str {w w' : World} {g c : Nat} {s : ByteArray} {t : TypeId} {fr : Nat × Nat} (k : Ex (w.alloc (.cells (bytesRow s c) t fr)) w') (hg : g = w.heap.size) (hc : s.size ≤ c) (hcm : c ≤ maxLen) : SlS w' (.slice (some ⟨g, 0, none⟩) s.size c) s.data.toList := by
  subst hg
  refine ⟨_, c, by rw [str_len], by rw [str_len]; exact hc, hcm, SlL.ex (sll_block (heap_alloc_new _ _) fun j hj => bytesRow_at s c j hj) k⟩
theorem SlS.take {w : World} {ad : Addr} {n c : Nat} {l : List UInt8} (h : SlS w (.slice (some ad) n c) l) (k : Nat) (hk : k ≤ n) : SlS w (.slice (some ad) k c) (l.take k) := by
  obtain ⟨ad', c', h1, h2, h3, h4⟩ := h.out
  cases h1
  refine ⟨_, _, by rw [List.length_take, Nat.min_eq_left hk], by rw [List.length_take]; omega, h3, ?_⟩
  rcases h4.out with h | ⟨g, off, h5, h6, h7⟩
  · exact ⟨.inl (by rw [List.length_take]; omega)⟩
  · refine ⟨.inr ⟨g, off, h5, h6, fun j hj => ?_⟩⟩
    rw [List.length_take] at hj
    rw [h7 j (by omega)]
    unfold gF
    rw [List.getD_eq_getElem?_getD, List.getD_eq_getElem?_getD, List.getElem?_take, if_pos (by omega)]
abbrev wE (w : World) (x y : ByteArray) : World := w.alloc (.cells #[.string x, .string y] 42)
end Go.Proofs.YtcdocklbpfdmeaaDoor

/- Halves; the document's tops and root of pairs. -/
set_option linter.unusedSimpArgs false
set_option linter.unusedVariables false
set_option maxRecDepth 20000
namespace Go.Proofs.YtcdocklbpfdmeaaDoor
open Go.RowKit
theorem half_any (m : Nat) (w : World) (h2 : 2 ≤ m) (hm : m ≤ 1000) : Calls Tryd.prog 102 #[I m] w fun e w' => e = .returned (I (splitN m)) ∧ w = w' := by
  obtain hm2 : m ≤ 1000 := hm
  go_enter Tryd.func102, Tryd.ntmps102
  go_wp2
  go_loopw [3] (fun i wr => ∃ q : Nat, 1 ≤ q ∧ q < m ∧ i = I q ∧ Hid (∃ j, q = 2 ^ j) ∧ wr = w) (fun i _ => m - (intOf i).toNat)
  case atStart => exact ⟨1, by omega, by omega, rfl, Lib.hid ⟨0, rfl⟩, rfl⟩
  case round =>
    obtain ⟨q, hq1, hq2, rfl, hj, rfl⟩ := hrel
    by_cases hlt : 2 * q < m
    · have hlt' : 2 * (q : Int) < m := by omega
      have hlt2 : (q : Int) * 2 < m := by omega
      go_wp2
      refine ⟨⟨2 * q, by omega, hlt, by go_num, ?_, by trivial⟩, by simp [intOf]; omega⟩
      obtain ⟨j, rfl⟩ := hj.out
      exact Lib.hid ⟨j + 1, by rw [Nat.pow_succ]; omega⟩
    · have hlt' : ¬ 2 * (q : Int) < m := by omega
      have hlt2 : ¬ (q : Int) * 2 < m := by omega
      go_wp2
      go_ret
      refine ⟨?_, by trivial⟩
      obtain ⟨j, rfl⟩ := hj.out
      rw [split_uniq hq2 (by omega)]
      rfl
theorem topP_one (p : Pr) : topP [p] = leafP p := by unfold topP; rw [if_neg (by simp)]; exact root_one _
theorem topP_two {l : List Pr} (h : 2 ≤ l.length) : topP l = nodeD (topP (l.take (splitN l.length))) (topP (l.drop (splitN l.length))) := by
  have h1 := split_lt h
  have h2 := split_pos l.length
  unfold topP
  rw [if_neg (by omega), if_neg (by rw [List.length_take]; omega), if_neg (by rw [List.length_drop]; omega), root_two (by simpa using h), List.length_map, List.map_take, List.map_drop]
def smallP (l : List Pr) : Prop := ∀ p ∈ l, p.1.size ≤ 100000 ∧ p.2.size ≤ 100000
theorem SlP.dropI {w : World} {g off : Nat} {l : List Pr} (h : SlP w (some ⟨g, off, none⟩) l) (k : Nat) : SlP w (some ⟨g, off + k * 2, none⟩) (l.drop k) := h.drop k
theorem leafL_len (p : Pr) : (leafL p).length ≤ 1000000 := by
  unfold leafL
  rw [List.length_append, List.length_append, leaf_len, leaf_len]
  simp; omega
end Go.Proofs.YtcdocklbpfdmeaaDoor

/- climb: a tree over pairs, by whatever tells the digests of its parts and keeps a state in memory. -/
set_option linter.unusedSimpArgs false
set_option linter.unusedVariables false
set_option maxRecDepth 20000
namespace Go.Proofs.YtcdocklbpfdmeaaDoor
open Go.RowKit
def treeD {σ : Type} (F : Nat → Nat → σ → Option Dg × σ) (at_ n : Nat) (s : σ) : Dg × σ :=
  match F at_ n s with
  | (some d, s1) => (d, s1)
  | (none, s1) => if h : 2 ≤ n then
      have := split_lt h
      have := split_pos n
      (nodeD (treeD F at_ (splitN n) s1).1 (treeD F (at_ + splitN n) (n - splitN n) (treeD F at_ (splitN n) s1).2).1, (treeD F (at_ + splitN n) (n - splitN n) (treeD F at_ (splitN n) s1).2).2)
    else (zeroD, s1)
termination_by n
theorem tree_done {σ : Type} {F : Nat → Nat → σ → Option Dg × σ} {at_ n : Nat} {s s1 : σ} {d : Dg} (h : F at_ n s = (some d, s1)) : treeD F at_ n s = (d, s1) := by
  unfold treeD; rw [h]
theorem tree_more {σ : Type} {F : Nat → Nat → σ → Option Dg × σ} {at_ n : Nat} {s s1 : σ} (h : F at_ n s = (none, s1)) (h2 : 2 ≤ n) :
    treeD F at_ n s = (nodeD (treeD F at_ (splitN n) s1).1 (treeD F (at_ + splitN n) (n - splitN n) (treeD F at_ (splitN n) s1).2).1, (treeD F (at_ + splitN n) (n - splitN n) (treeD F at_ (splitN n) s1).2).2) := by
  conv => lhs; unfold treeD
  rw [h]
  simp only [dif_pos h2]
theorem tree_Q {σ : Type} (F : Nat → Nat → σ → Option Dg × σ) (Qs : Nat → σ → Prop) (hF : ∀ at_ s, (F at_ 1 s).1.isSome = true) (hQ : ∀ at_ n s, 1 ≤ n → Qs at_ s → (F at_ n s).1.isSome = true → Qs (at_ + n) (F at_ n s).2) (hQ0 : ∀ at_ n s, Qs at_ s → (F at_ n s).1 = none → Qs at_ (F at_ n s).2)
    (n : Nat) : ∀ at_ s, 0 < n → Qs at_ s → Qs (at_ + n) (treeD F at_ n s).2 := by
  induction n using Nat.strongRecOn with
  | ind n ih =>
    intro at_ s h1 hq
    cases hfs : F at_ n s with
    | mk o s1 =>
      cases o with
      | some d =>
        rw [tree_done hfs]
        have := hQ at_ n s h1 hq (by rw [hfs]; rfl)
        rwa [hfs] at this
      | none =>
        have h2 : 2 ≤ n := by
          rcases Nat.lt_or_ge n 2 with h | h
          · obtain rfl : n = 1 := by omega
            have := hF at_ s
            rw [hfs] at this
            cases this
          · exact h
        have hk1 := split_lt h2
        have hk2 := split_pos n
        have hq1 : Qs at_ s1 := by have := hQ0 at_ n s hq (by rw [hfs]); rwa [hfs] at this
        rw [tree_more hfs h2]
        have := ih (n - splitN n) (by omega) (at_ + splitN n) _ (by omega) (ih _ hk1 at_ s1 hk2 hq1)
        rwa [show at_ + splitN n + (n - splitN n) = at_ + n by omega] at this
structure Inv4 {σ : Type} (Inv : (Nat → Prop) → σ → World → Prop) : Prop where
  glob : ∀ {p s w}, Inv p s w → Glob w
  low : ∀ {p s w b}, Inv p s w → p b → b < w.heap.size
  grow : ∀ {p s w} (q : Nat → Prop) {w'}, Inv p s w → Ex w w' → (∀ b, q b → p b ∨ (w.heap.size ≤ b ∧ b < w'.heap.size)) → Inv q s w'
  set : ∀ {p s w b} (o : Nat) (vs : List Value), Inv p s w → p b → Inv p s (w.setCells b o vs)
structure HeldP (p : Nat → Prop) (w w' : World) : Prop where
  size : w.heap.size ≤ w'.heap.size
  same : ∀ b, p b → w'.heap[b]? = w.heap[b]?
def PostC {σ : Type} (Inv : (Nat → Prop) → σ → World → Prop) (p : Nat → Prop) (s : σ) (w : World) (v : Value) (e : Ending) (w' : World) : Prop := e = .returned v ∧ HeldP p w w' ∧ Inv p s w'
theorem ex_of_alloc (w : World) (ob : Obj) (b : Nat) (h : b < w.heap.size) : (w.alloc ob).heap[b]? = w.heap[b]? := by
  show (w.heap.push ob)[b]? = _
  rw [Array.getElem?_push, if_neg (by omega)]
theorem block_cells {w : World} {b n : Nat} {cs : Array Value} {t : TypeId} (h : w.heap[b]? = some (.cells cs t (0, 0))) (hn : cs.size = n) : cellsN w b 0 n = some cs ∧ frozenN w b 0 n = false ∧ b < w.heap.size := by
  subst hn
  refine ⟨cellsN_some.2 ⟨rfl, fun j hj => ?_⟩, frozenN_false.2 fun j hj => ?_, (Array.getElem?_eq_some_iff.1 h).1⟩
  · rw [Nat.zero_add, cell_of_row w b j cs t (0, 0) h]
  · simp [World.frozen?, h]
theorem held_new {p : Nat → Prop} {w w2 : World} {ob : Obj} (h : HeldP (fun b => p b ∨ b = w.heap.size) (w.alloc ob) w2) : w2.heap[w.heap.size]? = some ob :=
  (h.same _ (.inr rfl)).trans (heap_alloc_new w ob)
theorem held_old {p : Nat → Prop} {w w2 : World} {ob : Obj} (h : HeldP (fun b => p b ∨ b = w.heap.size) (w.alloc ob) w2) (hp : ∀ b, p b → b < w.heap.size) : HeldP p w w2 :=
  ⟨by have := h.size; simp [go_sem] at this; omega, fun b hb => by
    rw [h.same b (.inl hb)]
    have := hp b hb
    exact (ex_of_alloc w ob b this)⟩
theorem splice_row (f g : Nat → UInt8) : spliceA (rowB 32 g) 0 (rowB 32 f).toList = rowB 32 f := by
  apply arr_ext; intro j
  rw [spliceA_get]
  by_cases h : j < 32
  · rw [if_pos ⟨by omega, by simp; omega, by simp; exact h⟩, Nat.sub_zero, Array.getElem?_toList]
  · rw [if_neg (by simp; omega), rowB_get, rowB_get, if_neg h, if_neg h]
theorem tree_end {σ : Type} {Inv : (Nat → Prop) → σ → World → Prop} (I4 : Inv4 Inv) {p : Nat → Prop} {s : σ} {w w4 w' : World} {f g : Nat → UInt8} {t : TypeId} (hp : ∀ b, p b → b < w.heap.size) (hb : w4.heap[w.heap.size]? = some (.cells (rowB 32 g) t (0, 0)))
    (hH : HeldP p w w4) (hI : Inv (fun b => p b ∨ b = w.heap.size) s w4) (k : Ex (w4.setCells w.heap.size 0 (rowB 32 f).toList) w') : HeldP p w w' ∧ Inv p s w' ∧ cellsN w' w.heap.size 0 32 = some (rowB 32 f) := by
  have hsz : (w4.setCells w.heap.size 0 (rowB 32 f).toList).heap.size = w4.heap.size := setCells_size _ _ _ _
  have hlt := (block_cells (n := 32) hb (by simp)).2.2
  refine ⟨⟨?_, fun b hpb => ?_⟩, ?_, ?_⟩
  · have := ex_size k
    have := hH.size
    omega
  · have h1 := hp b hpb
    have h2 := hH.size
    rw [← hH.same b hpb]
    obtain ⟨X, rfl⟩ := k
    rw [wx_heap _ _ _ (by omega), setCells_heap _ _ _ _ _ (by omega)]
  · exact I4.grow _ (I4.set 0 _ hI (.inr rfl)) k fun b hb => .inl (.inl hb)
  · have h3 := setCells_block w.heap.size t (0, 0) (rowB 32 f).toList 0 w4 (rowB 32 g) hb
    rw [splice_row] at h3
    exact (block_cells (ex_block k h3) (by simp)).1
set_option maxHeartbeats 1000000 in
theorem climbT_any {σ : Type} {Inv : (Nat → Prop) → σ → World → Prop} (I4 : Inv4 Inv) (F : Nat → Nat → σ → Option Dg × σ) (f : Nat) (cap : Array Value) (M : Nat) (hM : M ≤ 1000)
    (hf : ∀ args w, (callFunc f args).run Tryd.prog w = .ok (.enter f args) w) (hF : ∀ at_ s, (F at_ 1 s).1.isSome = true)
    (Qs : Nat → σ → Prop) (hQ : ∀ at_ n s, 1 ≤ n → Qs at_ s → (F at_ n s).1.isSome = true → Qs (at_ + n) (F at_ n s).2) (hQ0 : ∀ at_ n s, Qs at_ s → (F at_ n s).1 = none → Qs at_ (F at_ n s).2)
    (hC : ∀ p (at_ n : Nat) s w, 1 ≤ n → at_ + n ≤ M → Qs at_ s → Inv p s w → Calls Tryd.prog f (#[I at_, I n] ++ cap) w (PostC Inv p (F at_ n s).2 w (.tuple #[.agg (rowB 32 (dF ((F at_ n s).1.getD zeroD))), .bool (F at_ n s).1.isSome]))) (n : Nat) :
    ∀ (at_ : Nat) (s : σ) (p : Nat → Prop) (w : World), 1 ≤ n → at_ + n ≤ M → Qs at_ s → Inv p s w →
      Calls Tryd.prog 64 #[I at_, I n, .func (.func f) #[] cap] w (PostC Inv p (treeD F at_ n s).2 w (.agg (rowB 32 (dF (treeD F at_ n s).1)))) := by
  induction n using Nat.strongRecOn with
  | ind n ih =>
    intro at_ s p w h1 hat hq hI
    have hc := hC (fun b => p b ∨ b = w.heap.size) at_ n s (w.alloc (.cells (rowB 32 fun _ => 0) 46)) h1 hat hq (I4.grow _ hI (ex_alloc (ex_refl _) _) (fun b hb => by rcases hb with hb | rfl; exact .inl hb; exact .inr ⟨Nat.le_refl _, by simp [go_sem]⟩))
    have HC := Lib.hid hc
    cases hfs : F at_ n s with
    | mk o s1 =>
      rw [hfs] at HC
      cases o with
      | some d =>
        rw [tree_done hfs]
        clear ih hfs hc hC hF hQ hQ0 hq
        simp only [Option.getD_some, Option.isSome_some] at HC ⊢
        go_enter Tryd.func64, Tryd.ntmps64
        go_wp2_with ((with_reducible refine (HC.out).mono ?_); rintro e w2 ⟨rfl, hH, hI2⟩; obtain ⟨r1, r2, r3⟩ := block_cells (n := 32) (held_new hH) (by simp); replace hH := Lib.hid hH; replace hI2 := Lib.hid hI2)
        obtain ⟨z1, z2, z3⟩ := tree_end I4 (f := dF d) (w' := (w2.setCells w.heap.size 0 (rowB 32 (dF d)).toList).alloc (.cells (rowB 32 (dF d)) 46)) (fun b => I4.low hI) (held_new hH.out) (held_old hH.out fun b => I4.low hI) hI2.out (by (try show Ex _ _); repeat (first | (with_reducible exact ex_refl _) | (with_reducible assumption) | (with_reducible refine ex_drewL ?_) | (with_reducible refine ex_appR ?_ _) | (with_reducible refine ex_wx ?_ _) | (with_reducible refine ex_drew ?_) | (with_reducible refine ex_alloc ?_ _)))
        exact ret_row (cs := rowB 32 (dF d)) Tryd.results64 Tryd.underlying46 rfl info_id rfl z3 rfl ⟨rfl, z1, z2⟩
      | none =>
        have h2 : 2 ≤ n := by
          rcases Nat.lt_or_ge n 2 with h | h
          · obtain rfl : n = 1 := by omega
            have := hF at_ s
            rw [hfs] at this
            cases this
          · exact h
        have hk1 := split_lt h2
        have hk2 := split_pos n
        rw [tree_more hfs h2]
        have hq1 : Qs at_ s1 := by have := hQ0 at_ n s hq (by rw [hfs]); rwa [hfs] at this
        have hq2 := tree_Q F Qs hF hQ hQ0 (splitN n) at_ s1 hk2 hq1
        have HS := Lib.hid (fun w => half_any n w h2 (by omega))
        simp only [Option.getD_none, Option.isSome_none] at HC
        rw [row_zero] at HC
        have HT1 : Hid (∀ w2 w', Inv (fun b => p b ∨ b = w.heap.size) s1 w2 → Ex w2 w' → Calls Tryd.prog 64 #[I at_, I (splitN n), .func (.func f) #[] cap] w' (PostC Inv (fun b => p b ∨ b = w.heap.size) (treeD F at_ (splitN n) s1).2 w' (.agg (rowB 32 (dF (treeD F at_ (splitN n) s1).1))))) :=
          Lib.hid fun w2 w' hi k => ih _ hk1 at_ s1 _ w' hk2 (by omega) hq1 (I4.grow _ hi k fun b hb => .inl hb)
        have HT2 : Hid (∀ w3 w', Inv (fun b => p b ∨ b = w.heap.size) (treeD F at_ (splitN n) s1).2 w3 → Ex w3 w' → w3.heap.size < w'.heap.size → Calls Tryd.prog 64 #[I ((at_ : Int) + splitN n), I ((n : Int) - splitN n), .func (.func f) #[] cap] w' (PostC Inv (fun b => (p b ∨ b = w.heap.size) ∨ b = w3.heap.size) (treeD F (at_ + splitN n) (n - splitN n) (treeD F at_ (splitN n) s1).2).2 w' (.agg (rowB 32 (dF (treeD F (at_ + splitN n) (n - splitN n) (treeD F at_ (splitN n) s1).2).1))))) :=
          Lib.hid fun w3 w' hi k hlt => by
            have := ih (n - splitN n) (by omega) (at_ + splitN n) (treeD F at_ (splitN n) s1).2 (fun b => (p b ∨ b = w.heap.size) ∨ b = w3.heap.size) w' (by omega) (by omega) hq2 (I4.grow _ hi k fun b hb => by
              rcases hb with hb | rfl
              · exact .inl hb
              · exact .inr ⟨Nat.le_refl _, hlt⟩)
            rwa [show ((at_ + splitN n : Nat) : Int) = (at_ : Int) + splitN n by omega, show ((n - splitN n : Nat) : Int) = (n : Int) - splitN n by omega] at this
        generalize treeD F (at_ + splitN n) (n - splitN n) (treeD F at_ (splitN n) s1).2 = r2 at HT2 ⊢
        generalize treeD F at_ (splitN n) s1 = r1 at HT1 HT2 ⊢
        obtain ⟨a, s2⟩ := r1
        obtain ⟨b, s3⟩ := r2
        simp only at HT1 HT2 ⊢
        have HJ : Hid (∀ w', Glob w' → Calls Tryd.prog 103 #[.agg (rowB 32 (dF a)), .agg (rowB 32 (dF b))] w' (Post w' (.agg (rowB 32 (dF (nodeD a b)))))) := Lib.hid fun w' G => sjoin_any G a b w' (ex_refl _)
        generalize splitN n = k at HS HT1 HT2 hk1 hk2
        clear ih hc hF hfs hC hQ hQ0 hq hq1 hq2
        go_enter Tryd.func64, Tryd.ntmps64
        go_wp2_with (first | (go_at_call 102; refine (HS.out _).mono ?_; rintro e w' ⟨rfl, rfl⟩) | (go_at_call 64; (with_reducible refine (HT1.out _ _ hI2.out (by (try show Ex _ _); repeat (first | (with_reducible exact ex_refl _) | (with_reducible assumption) | (with_reducible refine ex_drewL ?_) | (with_reducible refine ex_appR ?_ _) | (with_reducible refine ex_wx ?_ _) | (with_reducible refine ex_drew ?_) | (with_reducible refine ex_alloc ?_ _)))).mono ?_); rintro e w3 ⟨rfl, hH3, hI3⟩; replace hH3 := Lib.hid hH3; replace hI3 := Lib.hid hI3) | ((with_reducible refine (HC.out).mono ?_); rintro e w2 ⟨rfl, hH, hI2⟩; obtain ⟨r1, r2, r3⟩ := block_cells (n := 32) (held_new hH) (by simp); replace hH := Lib.hid hH; replace hI2 := Lib.hid hI2))
        have hb2 := held_new hH.out
        have hb3 : w3.heap[w.heap.size]? = some (.cells (rowB 32 fun _ => 0) 46 (0, 0)) := by
          rw [hH3.out.same _ (.inr rfl), ex_of_alloc _ _ _ r3]; exact hb2
        have r5 := (block_cells (n := 32) hb3 (by simp)).2.2
        replace hb2 := Lib.hid hb2
        replace hb3 := Lib.hid hb3
        clear r1 r2
        refine wp_region_seqH (fun w' => ∃ X, w' = fx (w3.alloc (.cells (rowB 32 (dF a)) 46)) w3.heap.size X) [(0, true), (1, true), (2, true), (3, true), (4, true), (5, true), (6, true), (7, true), (8, false), (9, false), (10, false)] ?_ (by kernel_rfl) (by kernel_rfl) (fun _ _ d _ _ h => by cases d <;> exact h) ?_
        · exact ⟨_, fx_of rfl⟩
        simp only [List.map_cons, List.map_nil, nth]
        repeat ((with_reducible refine wpSeqH_look ?_); go_big_quiet_step (fail); (with_reducible refine wpQuiet_nil ?_))
        (with_reducible refine wpSeqH_eff ?_ ?_)
        · rfl
        try dsimp only
        go_wp2_with ((with_reducible refine (HT2.out _ _ hI3.out (by (try show Ex _ _); repeat (first | (with_reducible exact ex_refl _) | (with_reducible assumption) | (with_reducible refine ex_drewL ?_) | (with_reducible refine ex_appR ?_ _) | (with_reducible refine ex_wx ?_ _) | (with_reducible refine ex_drew ?_) | (with_reducible refine ex_alloc ?_ _))) (by simp [go_sem])).mono ?_); rintro e w4 ⟨rfl, hH4, hI4⟩)
        have hb4 : w4.heap[w.heap.size]? = some (.cells (rowB 32 fun _ => 0) 46 (0, 0)) := by
          rw [hH4.same _ (.inl (.inr rfl))]
          exact (ex_of_alloc _ _ _ r5).trans hb3.out
        have hb5 : w4.heap[w3.heap.size]? = (w3.alloc (.cells (rowB 32 (dF a)) 46)).heap[w3.heap.size]? := hH4.same _ (.inr rfl)
        have hs5 := hH4.size
        obtain ⟨q1, q2, q3⟩ := block_cells (n := 32) hb4 (by simp)
        replace hH4 := Lib.hid hH4
        replace hI4 := Lib.hid hI4
        replace hb4 := Lib.hid hb4
        refine mixQH_mk ⟨_, fx_of hb5⟩ ?_
        have hs6 : w3.heap.size < w4.heap.size := by simp [go_sem] at hs5; omega
        have hne : w3.heap.size ≠ w.heap.size := by omega
        (with_reducible refine wpSeqH_eff ?_ ?_)
        · rfl
        try dsimp only
        go_wp2_with (go_at_call 103; (with_reducible refine (HJ.out _ (I4.glob hI4.out)).mono ?_); rintro e w5 ⟨rfl, XJ, rfl⟩)
        refine mixQH_mk ⟨_, fx_of ((wx_heap _ _ _ hs6).trans hb5)⟩ ?_
        (with_reducible refine wpSeqH_eff ?_ ?_)
        · rfl
        try dsimp only
        go_wp2
        refine mixQH_mk ⟨_, fx_of ((wx_heap _ _ _ (by rw [setCells_size]; exact hs6)).trans ((setCells_heap _ _ _ _ _ hne).trans hb5))⟩ ?_
        refine wpSeqH_nil ?_
        go_wp2
        have hp : ∀ b, p b → b < w.heap.size := fun b => I4.low hI
        have hz : HeldP p w w4 := ⟨by omega, fun b hb => by
          have h1 := hp b hb
          rw [hH4.out.same b (.inl (.inl hb))]
          refine (ex_of_alloc _ _ _ (by omega)).trans ?_
          rw [hH3.out.same b (.inl hb)]
          refine (ex_of_alloc _ _ _ (by omega)).trans ?_
          rw [hH.out.same b (.inl hb)]
          exact ex_of_alloc _ _ _ h1⟩
        obtain ⟨z1, z2, z3⟩ := tree_end I4 (f := dF (nodeD a b)) (w' := wx (w4.setCells w.heap.size 0 (rowB 32 (dF (nodeD a b))).toList) XJ) hp hb4.out hz (I4.grow _ hI4.out (ex_refl _) fun b hb => .inl (.inl hb)) ⟨_, rfl⟩
        exact ret_row (cs := rowB 32 (dF (nodeD a b))) Tryd.results64 Tryd.underlying46 rfl info_id rfl z3 rfl ⟨rfl, z1, z2⟩
end Go.Proofs.YtcdocklbpfdmeaaDoor
