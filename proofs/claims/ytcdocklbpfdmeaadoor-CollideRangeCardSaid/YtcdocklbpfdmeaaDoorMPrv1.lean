import Derived.Test.YtcdocklbpfdmeaaDoorMTree
import Derived.Maps.AppendAt

/- What the proof of a range keeps while the tree is climbed. -/
set_option linter.unusedSimpArgs false
set_option linter.unusedVariables false
set_option maxRecDepth 20000
namespace Go.Proofs.YtcdocklbpfdmeaaDoor
open Go.RowKit
structure InvP (A : World) (bs : Nat) (c0 c1 c2 : Value) (p : Nat → Prop) (path : List Dg) (w : World) : Prop where
  ex : Ex A w
  low : ∀ b, p b → A.heap.size ≤ b ∧ b < w.heap.size ∧ b ≠ bs
  bsA : A.heap.size ≤ bs
  row : ∃ v, w.heap[bs]? = some (.cells #[c0, c1, c2, v] 27 (0, 0)) ∧ OwnD w (bs + 1) v path ∧ ∀ g, v.ownBlock = some g → ¬ p g
theorem own_kept {w w' : World} {Z : Nat} {t : TypeId} {s : Nat} {v : Value} {n : Nat} {xs : List Value} (h : w.ownsRow Z t s v n xs) (hg : ∀ g, v.ownBlock = some g → w'.heap[g]? = w.heap[g]?) : w'.ownsRow Z t s v n xs := by
  refine ⟨h.1, ?_⟩
  rcases h.2 with h2 | ⟨g, cap, cur, rfl, h3, h4, h5⟩
  · exact .inl h2
  · exact .inr ⟨g, cap, cur, rfl, h3, (hg g rfl).trans h4, h5⟩
theorem invP_ok {A : World} (G : Glob A) (bs : Nat) (c0 c1 c2 : Value) : Inv4 (InvP A bs c0 c1 c2) where
  glob := fun h => G.ex h.ex
  low := fun h hb => (h.low _ hb).2.1
  grow := fun {p s w} q w' h k hq => by
    have h1 := ex_size h.ex
    have h2 := ex_size k
    obtain ⟨v, r1, r2, r3⟩ := h.row
    have hbs : bs < w.heap.size := (Array.getElem?_eq_some_iff.1 r1).1
    refine ⟨ex_trans h.ex k, fun b hb => ?_, h.bsA, v, ex_block k r1, r2.ex k, fun g hg hqg => ?_⟩
    · rcases hq b hb with h3 | ⟨h3, h4⟩
      · have := h.low b h3
        omega
      · omega
    · rcases hq g hqg with h3 | ⟨h3, h4⟩
      · exact r3 g hg h3
      · have := (r2.lt g hg).2
        omega
  set := fun {p s w b} o vs h hb => by
    obtain ⟨v, r1, r2, r3⟩ := h.row
    have hl := h.low b hb
    refine ⟨ex_setCells h.ex hl.1 o vs, fun b2 hb2 => by rw [setCells_size]; exact h.low b2 hb2, h.bsA, v, ?_, ?_, r3⟩
    · rw [setCells_heap _ _ _ _ _ (Ne.symm hl.2.2)]; exact r1
    · exact own_kept r2 fun g hg => setCells_heap _ _ _ _ _ fun e => r3 g hg (e ▸ hb)
def FP (l : List Pr) (first end_ : Nat) (at_ n : Nat) (path : List Dg) : Option Dg × List Dg :=
  if at_ + n ≤ first ∨ end_ ≤ at_ then (some (topP ((l.drop at_).take n)), path ++ [topP ((l.drop at_).take n)]) else if n = 1 then (some zeroD, path) else (none, path)
theorem wpAppAt {ops : Array Oper} {rest : List Oper} {o : Oper} {a : Act} {w : World} {Q : Exit → Act → World → Prop} (s x : Operand) (hgd : o.guard = none)
    (ho : o.op = .call { callee := .builtin .append, args := #[s, x], argTypes := #[25, 25] })
    {Z : Nat} {v : Value} {l r : List Dg} {g off m c : Nat} (hown : OwnD w Z v l) (hs : a.eval s = v) (hx : a.eval x = .slice (some ⟨g, off, none⟩) m c) (hm : m = r.length) (hr : SlD w (some ⟨g, off, none⟩) r) (hlen : l.length + r.length ≤ 1000000) (hZ : Z ≤ w.heap.size)
    (h : ∀ v' w', OwnD w' Z v' (l ++ r) → w.grownBy w' v.ownBlock → (v'.ownBlock = v.ownBlock ∨ v'.ownBlock = some w.heap.size) → wpList Tryd.prog ops Q rest (a.put o.dst v') w') : wpList Tryd.prog ops Q (o :: rest) a w := by
  subst hm
  obtain ⟨i, hi, h1', h2', h3'⟩ := info_parts appId.hi
  refine wpList_append_own_at w hgd s x _ ho Z _ i _ _ _ appId.ht hi h1' h2' h3' appId.hzs appId.hsz v _ _ hs hown ⟨g, off, none⟩ r.length c (r.flatMap KD) hx (flat_len KD_len r) (sld_news hr) (KD_one r) (by unfold maxLen; omega) (by omega) hZ fun v' w' k1 k2 _ k3 => ?_
  rw [← List.flatMap_append, ← List.length_append] at k1
  exact h v' w' k1 k2 k3
theorem setCell_heap {w : World} {b o : Nat} (v : Value) {k : Nat} (h : k ≠ b) : (w.setCell ⟨b, o, none⟩ v).heap[k]? = w.heap[k]? := by
  simp only [World.setCell, Array.getElem?_modify]
  rw [if_neg (by simpa using Ne.symm h)]
theorem setCell_block {w : World} {b o : Nat} {cs : Array Value} {t : TypeId} {fr : Nat × Nat} (v : Value) (h : w.heap[b]? = some (.cells cs t fr)) : (w.setCell ⟨b, o, none⟩ v).heap[b]? = some (.cells (cs.setIfInBounds o v) t fr) := by
  simp [World.setCell, Array.getElem?_modify, h]
theorem setCell_sizeR (w : World) (a : Addr) (v : Value) : (w.setCell a v).heap.size = w.heap.size := by simp [World.setCell]
theorem block_cell {w : World} {b o : Nat} {cs : Array Value} {t : TypeId} {v : Value} (h : w.heap[b]? = some (.cells cs t (0, 0))) (hv : cs[o]? = some v) : w.cell? ⟨b, o, none⟩ = some v ∧ w.frozen? ⟨b, o, none⟩ = false := by
  refine ⟨?_, ?_⟩
  · rw [cell_of_row w b o cs t (0, 0) h]; exact hv
  · simp [World.frozen?, h]
theorem invP_post {A w w' : World} (G : Glob A) {bs : Nat} {c0 c1 c2 : Value} {p : Nat → Prop} {path : List Dg} (hI : InvP A bs c0 c1 c2 p path w) {v : Value} {e : Ending} (he : e = .returned v) (k : Ex w w') : PostC (InvP A bs c0 c1 c2) p path w v e w' :=
  ⟨he, held_ex k fun b hb => (hI.low b hb).2.1, (invP_ok G bs c0 c1 c2).grow _ hI k fun b hb => .inl hb⟩
/-- Behind the digest that was put behind the path. -/
theorem invP_end {A w w4 w6 : World} {bs : Nat} {c0 c1 c2 : Value} {p : Nat → Prop} {path : List Dg} {v v' : Value} {d : Dg} (hI : InvP A bs c0 c1 c2 p path w) (K4 : Ex w w4) (h4 : w.heap.size < w4.heap.size)
    (hv : ∀ g, v.ownBlock = some g → ¬ p g ∧ bs + 1 ≤ g ∧ g < w.heap.size) (hb : w.heap[bs]? = some (.cells #[c0, c1, c2, v] 27 (0, 0))) {o1 o2 : Obj}
    (k1 : OwnD w6 (bs + 1) v' (path ++ [d])) (k2 : ((w4.alloc o1).alloc o2).grownBy w6 v.ownBlock) (k3 : v'.ownBlock = v.ownBlock ∨ v'.ownBlock = some ((w4.alloc o1).alloc o2).heap.size) (f : Nat → UInt8) :
    HeldP p w ((w6.setCell ⟨bs, 3, none⟩ v').setCells w.heap.size 0 (rowB 32 f).toList) ∧ InvP A bs c0 c1 c2 p (path ++ [d]) ((w6.setCell ⟨bs, 3, none⟩ v').setCells w.heap.size 0 (rowB 32 f).toList) := by
  have hs5 : ((w4.alloc o1).alloc o2).heap.size = w4.heap.size + 2 := by simp [go_sem]
  have hs6 := k2.size
  have hsE : ((w6.setCell ⟨bs, 3, none⟩ v').setCells w.heap.size 0 (rowB 32 f).toList).heap.size = w6.heap.size := by rw [setCells_size, setCell_sizeR]
  have hbs : bs < w.heap.size := (Array.getElem?_eq_some_iff.1 hb).1
  have hA := ex_size hI.ex
  have keep : ∀ b, b < w.heap.size → b ≠ bs → v.ownBlock ≠ some b → ((w6.setCell ⟨bs, 3, none⟩ v').setCells w.heap.size 0 (rowB 32 f).toList).heap[b]? = w.heap[b]? := fun b h1 h2 h3 => by
    rw [setCells_heap _ _ _ _ _ (by omega), setCell_heap _ h2, k2.block b (by omega) (fun e => h3 e.symm), ex_of_alloc _ _ _ (by simp [go_sem]; omega), ex_of_alloc _ _ _ (by omega)]
    obtain ⟨X, rfl⟩ := K4
    exact wx_heap _ _ _ h1
  have hvb : v.ownBlock ≠ some bs := fun e => by have := (hv bs e).2.1; omega
  have hb6 : w6.heap[bs]? = some (.cells #[c0, c1, c2, v] 27 (0, 0)) := by
    rw [k2.block bs (by omega) (fun e => hvb e.symm), ex_of_alloc _ _ _ (by simp [go_sem]; omega), ex_of_alloc _ _ _ (by omega)]
    exact ex_block K4 hb
  refine ⟨⟨by omega, fun b hpb => ?_⟩, ⟨?_, fun b hpb => ?_, hI.bsA, v', ?_, ?_, fun g hg hpg => ?_⟩⟩
  · have := hI.low b hpb
    exact keep b this.2.1 this.2.2 fun e => (hv b e).1 hpb
  · have kk : Ex A ((w4.alloc o1).alloc o2) := ex_alloc (ex_alloc (ex_trans hI.ex K4) _) _
    have k6 : Ex A w6 := ex_of_below ((ex_below kk).grown k2 (ex_size kk) fun g hg => by have := hv g hg; have := hI.bsA; omega)
    exact ex_setCells (ex_set k6 (p := ⟨bs, 3, none⟩) hI.bsA v') (by omega) _ _
  · have := hI.low b hpb
    omega
  · rw [setCells_heap _ _ _ _ _ (by omega)]
    exact setCell_block v' hb6
  · refine own_kept k1 fun g hg => ?_
    have hlt := (k1.lt g hg).1
    rw [setCells_heap _ _ _ _ _ ?_, setCell_heap _ (by omega)]
    rcases k3 with k3 | k3
    · rw [k3] at hg
      have := hv g hg
      omega
    · rw [k3] at hg
      have := Option.some.inj hg
      omega
  · rcases k3 with k3 | k3
    · rw [k3] at hg
      exact (hv g hg).1 hpg
    · rw [k3] at hg
      have h1 := Option.some.inj hg
      have h2 := hI.low g hpg
      omega
/-- What stands behind the append. -/
theorem prv_facts {w w4 w6 : World} {bs : Nat} {c0 c1 c2 : Value} {p : Nat → Prop} {path : List Dg} {v v' : Value} {d : Dg} (K4 : Ex w w4) (h4 : w.heap.size < w4.heap.size)
    (hv : ∀ g, v.ownBlock = some g → ¬ p g ∧ bs + 1 ≤ g ∧ g < w.heap.size) (hb : w.heap[bs]? = some (.cells #[c0, c1, c2, v] 27 (0, 0))) {o2 : Obj} (h8 : w4.heap[w.heap.size]? = some (.cells (rowB 32 fun _ => 0) 46 (0, 0)))
    (k1 : OwnD w6 (bs + 1) v' (path ++ [d])) (k2 : ((w4.alloc (.cells (rowB 32 (dF d)) 46)).alloc o2).grownBy w6 v.ownBlock) :
    w6.cell? ⟨bs, 3, none⟩ = some v ∧ w6.frozen? ⟨bs, 3, none⟩ = false ∧ (∀ u, cellsN (w6.setCell ⟨bs, 3, none⟩ u) w4.heap.size 0 32 = some (rowB 32 (dF d))) ∧ (∀ u, cellsN (w6.setCell ⟨bs, 3, none⟩ u) w.heap.size 0 32 = some (rowB 32 fun _ => 0)) ∧ (∀ u, frozenN (w6.setCell ⟨bs, 3, none⟩ u) w.heap.size 0 32 = false) ∧ bs < w6.heap.size ∧ ∀ u f, cellsN ((w6.setCell ⟨bs, 3, none⟩ u).setCells w.heap.size 0 (rowB 32 f).toList) w.heap.size 0 32 = some (rowB 32 f) := by
  have hs5 : ((w4.alloc (.cells (rowB 32 (dF d)) 46)).alloc o2).heap.size = w4.heap.size + 2 := by simp [go_sem]
  have hs6 := k2.size
  have hbs : bs < w.heap.size := (Array.getElem?_eq_some_iff.1 hb).1
  have hvb : v.ownBlock ≠ some bs := fun e => by have := (hv bs e).2.1; omega
  have hb6 : w6.heap[bs]? = some (.cells #[c0, c1, c2, v] 27 (0, 0)) := by
    rw [k2.block bs (by omega) (fun e => hvb e.symm), ex_of_alloc _ _ _ (by simp [go_sem]; omega), ex_of_alloc _ _ _ (by omega)]
    exact ex_block K4 hb
  have h86 : w6.heap[w.heap.size]? = some (.cells (rowB 32 fun _ => 0) 46 (0, 0)) := by
    rw [k2.block _ (by omega) (fun e => by have := (hv _ e.symm).2.2; omega), ex_of_alloc _ _ _ (by simp [go_sem]; omega), ex_of_alloc _ _ _ h4]
    exact h8
  have h46 : w6.heap[w4.heap.size]? = some (.cells (rowB 32 (dF d)) 46 (0, 0)) := by
    rw [k2.block _ (by omega) (fun e => by have := (hv _ e.symm).2.2; omega), ex_of_alloc _ _ _ (by simp [go_sem])]
    exact heap_alloc_new _ _
  obtain ⟨t1, t2⟩ := block_cell (o := 3) hb6 rfl
  refine ⟨t1, t2, fun u => ?_, fun u => ?_, fun u => ?_, by omega, fun u f => ?_⟩
  · exact (block_cells (n := 32) ((setCell_heap u (by omega)).trans h46) (by simp)).1
  · exact (block_cells (n := 32) ((setCell_heap u (by omega)).trans h86) (by simp)).1
  · exact (block_cells (n := 32) ((setCell_heap u (by omega)).trans h86) (by simp)).2.1
  · have h10 : (w6.setCell ⟨bs, 3, none⟩ u).heap[w.heap.size]? = some (.cells (rowB 32 fun _ => 0) 46 (0, 0)) := (setCell_heap u (by omega)).trans h86
    have h9 := setCells_block w.heap.size 46 (0, 0) (rowB 32 f).toList 0 _ _ h10
    rw [splice_row] at h9
    exact (block_cells (n := 32) h9 (by simp)).1
set_option maxHeartbeats 2000000 in
theorem prove1_any {A : World} (G : Glob A) (l : List Pr) (a : Option Addr) (c bf be bl bs first end_ : Nat) (c0 c1 c2 : Value) (hL : l.length ≤ 1000) (hc : l.length ≤ c) (hcm : c ≤ maxLen) (hs : SlP A a l)
    (hbf : A.cell? ⟨bf, 0, none⟩ = some (I first) ∧ bf < A.heap.size) (hbe : A.cell? ⟨be, 0, none⟩ = some (I end_) ∧ be < A.heap.size) (hbl : A.cell? ⟨bl, 0, none⟩ = some (.slice a l.length c) ∧ bl < A.heap.size)
    (at_ n : Nat) (h1 : 1 ≤ n) (hat : at_ + n ≤ l.length) (path : List Dg) (hq : path.length ≤ at_) (p : Nat → Prop) (w : World) (hI : InvP A bs c0 c1 c2 p path w) :
    Calls Tryd.prog 69 #[I at_, I n, .pointer (some ⟨bf, 0, none⟩), .pointer (some ⟨be, 0, none⟩), .pointer (some ⟨bl, 0, none⟩), .pointer (some ⟨bs, 0, none⟩)] w
      (PostC (InvP A bs c0 c1 c2) p (FP l first end_ at_ n path).2 w (.tuple #[.agg (rowB 32 (dF ((FP l first end_ at_ n path).1.getD zeroD))), .bool (FP l first end_ at_ n path).1.isSome])) := by
  have b1 := ex_cell hI.ex hbf.1 hbf.2
  have b2 := ex_cell hI.ex hbe.1 hbe.2
  have b3 := ex_cell hI.ex hbl.1 hbl.2
  have hA := ex_size hI.ex
  have b4 : bf < w.heap.size := by omega
  have b5 : be < w.heap.size := by omega
  have b6 : bl < w.heap.size := by omega
  have HSl : Hid (SlP w a l) := Lib.hid (hs.ex hI.ex)
  have GW : Hid (Glob w) := Lib.hid (G.ex hI.ex)
  have HI := Lib.hid hI
  clear hbf hbe hbl hs hA
  by_cases ho : at_ + n ≤ first ∨ end_ ≤ at_
  · have hx : FP l first end_ at_ n path = (some (topP ((l.drop at_).take n)), path ++ [topP ((l.drop at_).take n)]) := by unfold FP; rw [if_pos ho]
    rw [hx]
    simp only [Option.getD_some, Option.isSome_some]
    have hW : Hid (∀ W b, Ex w W → W.cell? ⟨b, 0, none⟩ = some (.slice a l.length c) → b < W.heap.size → Calls Tryd.prog 64 #[I at_, I n, .func (.func 104) #[] #[.pointer (some ⟨b, 0, none⟩)]] W (Post W (.agg (rowB 32 (dF (topP ((l.drop at_).take n))))))) := Lib.hid fun W b k h1' h2 =>
      climbW_any l a c b W (GW.out.ex k) hL hc hcm (HSl.out.ex k) h1' h2 at_ n h1 hat
    have HWh := Lib.hid (fun w' => whole_post a l.length c w')
    generalize topP ((l.drop at_).take n) = d at hW ⊢
    generalize hlen : l.length = L at b3 hW HWh hc hat hL
    have b7 : path.length ≤ 1000 := by omega
    obtain ⟨v, r1, r2, r3⟩ := hI.row
    have hv : ∀ g, v.ownBlock = some g → ¬ p g ∧ bs + 1 ≤ g ∧ g < w.heap.size := fun g hg => ⟨r3 g hg, r2.lt g hg⟩
    have hbs : bs < w.heap.size := (Array.getElem?_eq_some_iff.1 r1).1
    have HV := Lib.hid hv
    have HR1 := Lib.hid r1
    have HO := Lib.hid r2
    clear hv r1 r2 r3 hI hx hlen
    have e1 : (at_ : Int) + n = ((at_ + n : Nat) : Int) := by omega
    have hzz : bs ≠ w.heap.size := by omega
    go_enter Tryd.func69, Tryd.ntmps69
    by_cases d1 : at_ + n ≤ first
    · have d1t : decide ((at_ : Int) + n ≤ first) = true := decide_eq_true (by omega)
      clear d1 ho e1
      go_wp2_with (first | (go_at_call 65; (with_reducible refine (HWh.out _).mono ?_); rintro e w2 ⟨b, rfl, kb1, kb2, X2, rfl⟩; (try simp only [wx_wx] at kb1 kb2)) | (go_at_call 64; (with_reducible refine (hW.out _ _ (by (try show Ex _ _); with_reducible repeat (first | exact ex_refl _ | assumption | refine ex_drewL ?_ | refine ex_appR ?_ _ | refine ex_wx ?_ _ | refine ex_drew ?_ | refine ex_alloc ?_ _)) kb1 kb2).mono ?_); rintro e w4 ⟨rfl, k4⟩; have K8 : Ex (w.alloc (.cells (rowB 32 fun _ => 0) 46)) w4 := ex_trans (by (try show Ex _ _); with_reducible repeat (first | exact ex_refl _ | assumption | refine ex_drewL ?_ | refine ex_appR ?_ _ | refine ex_wx ?_ _ | refine ex_drew ?_ | refine ex_alloc ?_ _)) (show Ex _ w4 from k4); have K4 : Ex w w4 := ex_trans (by (try show Ex _ _); with_reducible repeat (first | exact ex_refl _ | assumption | refine ex_drewL ?_ | refine ex_appR ?_ _ | refine ex_wx ?_ _ | refine ex_drew ?_ | refine ex_alloc ?_ _)) K8; have s1 := ex_block K4 HR1.out; obtain ⟨s3, s4⟩ := block_cell (o := 3) s1 rfl; have s5 : bs < w4.heap.size := (Array.getElem?_eq_some_iff.1 s1).1; have s6 := ex_block K8 (heap_alloc_new _ _); obtain ⟨q1, q2, q3⟩ := block_cells (n := 32) s6 (by simp); have hO4 := Lib.hid (HO.out.ex K4); have S6 := Lib.hid s6; clear s1 s6 k4 kb1 kb2 K8) | (at_builtin; refine wpAppAt _ _ rfl rfl (hO4.out.ex (by (try show Ex _ _); with_reducible repeat (first | exact ex_refl _ | assumption | refine ex_drewL ?_ | refine ex_appR ?_ _ | refine ex_wx ?_ _ | refine ex_drew ?_ | refine ex_alloc ?_ _))) rfl rfl rfl (sld_one d (by (try show Ex _ _); with_reducible repeat (first | exact ex_refl _ | assumption | refine ex_drewL ?_ | refine ex_appR ?_ _ | refine ex_wx ?_ _ | refine ex_drew ?_ | refine ex_alloc ?_ _)) (by simp [go_sem])) (by simp; omega) (by simp [go_sem]; omega) (fun v6 w6 k1 k2 k3 => ?_); obtain ⟨sa, sc, rfl, _, _, _⟩ := own_form k1; obtain ⟨z1, z2⟩ := invP_end HI.out K4 q3 HV.out HR1.out k1 k2 k3 (dF d); obtain ⟨y1, y2, y3, y4, y5, y6, y7⟩ := prv_facts K4 q3 HV.out HR1.out S6.out k1 k2; replace y7 := Lib.hid y7; (try simp only [List.length_append, List.length_singleton] at z1 z2); replace k1 := Lib.hid k1; replace k2 := Lib.hid k2; replace k3 := Lib.hid k3; replace z1 := Lib.hid z1; replace z2 := Lib.hid z2))
      exact ret_rowV (cs := rowB 32 (dF d)) (v := .bool true) Tryd.results69 Tryd.underlying46 rfl info_id rfl (y7.out _ _) rfl rfl ⟨rfl, z1.out, z2.out⟩
    · have d1t : decide ((at_ : Int) + n ≤ first) = false := decide_eq_false (by omega)
      have d2t : decide ((end_ : Int) ≤ at_) = true := decide_eq_true (by omega)
      have d2u : decide (end_ ≤ at_) = true := decide_eq_true (by omega)
      clear d1 ho e1
      go_wp2_with (first | (go_at_call 65; (with_reducible refine (HWh.out _).mono ?_); rintro e w2 ⟨b, rfl, kb1, kb2, X2, rfl⟩; (try simp only [wx_wx] at kb1 kb2)) | (go_at_call 64; (with_reducible refine (hW.out _ _ (by (try show Ex _ _); with_reducible repeat (first | exact ex_refl _ | assumption | refine ex_drewL ?_ | refine ex_appR ?_ _ | refine ex_wx ?_ _ | refine ex_drew ?_ | refine ex_alloc ?_ _)) kb1 kb2).mono ?_); rintro e w4 ⟨rfl, k4⟩; have K8 : Ex (w.alloc (.cells (rowB 32 fun _ => 0) 46)) w4 := ex_trans (by (try show Ex _ _); with_reducible repeat (first | exact ex_refl _ | assumption | refine ex_drewL ?_ | refine ex_appR ?_ _ | refine ex_wx ?_ _ | refine ex_drew ?_ | refine ex_alloc ?_ _)) (show Ex _ w4 from k4); have K4 : Ex w w4 := ex_trans (by (try show Ex _ _); with_reducible repeat (first | exact ex_refl _ | assumption | refine ex_drewL ?_ | refine ex_appR ?_ _ | refine ex_wx ?_ _ | refine ex_drew ?_ | refine ex_alloc ?_ _)) K8; have s1 := ex_block K4 HR1.out; obtain ⟨s3, s4⟩ := block_cell (o := 3) s1 rfl; have s5 : bs < w4.heap.size := (Array.getElem?_eq_some_iff.1 s1).1; have s6 := ex_block K8 (heap_alloc_new _ _); obtain ⟨q1, q2, q3⟩ := block_cells (n := 32) s6 (by simp); have hO4 := Lib.hid (HO.out.ex K4); have S6 := Lib.hid s6; clear s1 s6 k4 kb1 kb2 K8) | (at_builtin; refine wpAppAt _ _ rfl rfl (hO4.out.ex (by (try show Ex _ _); with_reducible repeat (first | exact ex_refl _ | assumption | refine ex_drewL ?_ | refine ex_appR ?_ _ | refine ex_wx ?_ _ | refine ex_drew ?_ | refine ex_alloc ?_ _))) rfl rfl rfl (sld_one d (by (try show Ex _ _); with_reducible repeat (first | exact ex_refl _ | assumption | refine ex_drewL ?_ | refine ex_appR ?_ _ | refine ex_wx ?_ _ | refine ex_drew ?_ | refine ex_alloc ?_ _)) (by simp [go_sem])) (by simp; omega) (by simp [go_sem]; omega) (fun v6 w6 k1 k2 k3 => ?_); obtain ⟨sa, sc, rfl, _, _, _⟩ := own_form k1; obtain ⟨z1, z2⟩ := invP_end HI.out K4 q3 HV.out HR1.out k1 k2 k3 (dF d); obtain ⟨y1, y2, y3, y4, y5, y6, y7⟩ := prv_facts K4 q3 HV.out HR1.out S6.out k1 k2; replace y7 := Lib.hid y7; (try simp only [List.length_append, List.length_singleton] at z1 z2); replace k1 := Lib.hid k1; replace k2 := Lib.hid k2; replace k3 := Lib.hid k3; replace z1 := Lib.hid z1; replace z2 := Lib.hid z2))
      exact ret_rowV (cs := rowB 32 (dF d)) (v := .bool true) Tryd.results69 Tryd.underlying46 rfl info_id rfl (y7.out _ _) rfl rfl ⟨rfl, z1.out, z2.out⟩
  · have d1t : decide ((at_ : Int) + n ≤ first) = false := decide_eq_false (by omega)
    have d2t : decide ((end_ : Int) ≤ at_) = false := decide_eq_false (by omega)
    have d2u : decide (end_ ≤ at_) = false := decide_eq_false (by omega)
    clear HSl
    by_cases hn : n = 1
    · subst hn
      have d1u : decide ((at_ : Int) + 1 ≤ first) = false := decide_eq_false (by omega)
      have hx : FP l first end_ at_ 1 path = (some zeroD, path) := by unfold FP; rw [if_neg ho, if_pos rfl]
      rw [hx]
      simp only [Option.getD_some, Option.isSome_some]
      rw [row_zero]
      clear hx ho
      go_enter Tryd.func69, Tryd.ntmps69
      go_wp2
      exact ret_rowV (cs := rowB 32 fun _ => 0) (v := .bool true) Tryd.results69 Tryd.underlying46 rfl info_id rfl (by simp [go_sem]) rfl rfl (invP_post G HI.out rfl (by (try show Ex _ _); with_reducible repeat (first | exact ex_refl _ | assumption | refine ex_drewL ?_ | refine ex_appR ?_ _ | refine ex_wx ?_ _ | refine ex_drew ?_ | refine ex_alloc ?_ _)))
    · have hx : FP l first end_ at_ n path = (none, path) := by unfold FP; rw [if_neg ho, if_neg hn]
      have e0 : ((n : Int) == 1) = false := beq_eq_false_iff_ne.2 (by omega)
      rw [hx]
      simp only [Option.getD_none, Option.isSome_none]
      rw [row_zero]
      clear hx ho hn
      go_enter Tryd.func69, Tryd.ntmps69
      go_wp2
      exact ret_rowV (cs := rowB 32 fun _ => 0) (v := .bool false) Tryd.results69 Tryd.underlying46 rfl info_id rfl (by simp [go_sem]) rfl rfl (invP_post G HI.out rfl (by (try show Ex _ _); with_reducible repeat (first | exact ex_refl _ | assumption | refine ex_drewL ?_ | refine ex_appR ?_ _ | refine ex_wx ?_ _ | refine ex_drew ?_ | refine ex_alloc ?_ _)))
end Go.Proofs.YtcdocklbpfdmeaaDoor
