import Derived.Test.YtabjamkkhlbajaaDoorMWlZz
import Derived.Test.YtabjamkkhlbajaaDoorMLittle
import Derived.Test.YtabjamkkhlbajaaDoorMWlEq
import Derived.Test.YtabjamkkhlbajaaDoorMDkP
import Derived.Deep.Upon
import Derived.Lib.BufferRead
import Derived.Laws.IdiomStrings
import Derived.Lib.LazyBuf
import Derived.Test.YtabjamkkhlbajaaDoorMSum

/- The log: Format. -/
set_option linter.unusedSimpArgs false
set_option linter.unusedVariables false
set_option linter.unnecessarySimpa false
set_option maxRecDepth 20000
namespace Go.Proofs.YtabjamkkhlbajaaDoor
open Go.RowKit
theorem thenD_ne {r : Dk × Int} {f : Dk → Dk × Int} (h : r.2 ≠ 0) : thenD r f = r := by unfold thenD; rw [if_neg h]
theorem thenD_eq {r : Dk × Int} {f : Dk → Dk × Int} (h : r.2 = 0) : thenD r f = f r.1 := by unfold thenD; rw [if_pos h]
theorem sync_ops (d : Dk) : (syncD d).1.ops ≤ d.ops + 1 ∧ (syncD d).1.qu.length ≤ d.qu.length := by
  rcases sync_cases d with ⟨_, _, g2, g3⟩ | ⟨_, _, g2, g3⟩
  · rw [g2, g3]; exact ⟨by omega, Nat.le_refl _⟩
  · rw [g2, g3]; exact ⟨Nat.le_refl _, by simp⟩
/-- Sectors that are to be written, as a closure has them. -/
structure WrF (W w' : World) (p at_ : Nat) (lv : Value) (a b c : Nat) : Prop where
  ex : Ex W w'
  ba : w'.heap[a]? = some (.cells #[lv] 69 (0, 0))
  bb : w'.heap[b]? = some (.cells #[PT p] 24 (0, 0))
  bc : w'.heap[c]? = some (.cells #[I at_] 3 (0, 0))
  za : W.heap.size ≤ a
  zb : W.heap.size ≤ b
  zc : W.heap.size ≤ c
theorem writes_o (p at_ : Nat) (lv : Value) (hlv : lv.oneCell' = true) (w : World) : Calls Tryd.prog 36 #[PT p, I at_, lv] w
    (fun e w' => ∃ a b c, e = .returned (.func (.func 58) #[] #[PT a, PT b, PT c]) ∧ Hid (WrF w w' p at_ lv a b c)) := by
  refine (writes_any p at_ lv hlv w).mono fun e w' hh => ?_
  obtain ⟨rfl, rfl⟩ := hh
  refine ⟨_, _, _, rfl, Lib.hid ⟨ex_alloc (ex_alloc (ex_alloc (ex_refl _) _) _) _, ?_, ?_, ?_, by omega, Nat.le_refl _, by omega⟩⟩
  · have := heap_alloc_new ((w.alloc (.cells #[PT p] 24)).alloc (.cells #[I at_] 3)) (.cells #[lv] 69)
    simpa only [World.size_alloc] using this
  · exact ex_block (ex_alloc (ex_alloc (ex_refl _) _) _) (heap_alloc_new w _)
  · have := ex_block (ex_alloc (ex_refl _) (.cells #[lv] 69)) (heap_alloc_new (w.alloc (.cells #[PT p] 24)) (.cells #[I at_] 3))
    simpa only [World.size_alloc] using this
/-- A head that is to be laid, as a closure has it. -/
structure HdF (W w' : World) (p : Nat) (c : Cm) (x y : Nat) : Prop where
  ex : Ex W w'
  bx : w'.heap[x]? = some (.cells #[PT p] 24 (0, 0))
  by' : w'.heap[y]? = some (.cells (CR c) 62 (0, 0))
  zx : W.heap.size ≤ x
  zy : W.heap.size ≤ y
theorem headf_o (p : Nat) (c : Cm) (w : World) : Calls Tryd.prog 39 #[PT p, .agg (CR c)] w
    (fun e w' => ∃ x y, e = .returned (.func (.func 64) #[] #[PT x, PT y]) ∧ Hid (HdF w w' p c x y)) := by
  refine (headf_any p c w).mono fun e w' hh => ?_
  obtain ⟨rfl, rfl⟩ := hh
  refine ⟨_, _, rfl, Lib.hid ⟨ex_alloc (ex_alloc (ex_refl _) _) _, ex_block (ex_alloc (ex_refl _) _) (heap_alloc_new _ _), ?_, Nat.le_refl _, Nat.le_succ _⟩⟩
  have := heap_alloc_new (w.alloc (.cells #[PT p] 24)) (.cells (CR c) 62)
  rwa [World.size_alloc] at this
section
variable {W6 : World} {L : Loc} {g : Nat} {Q : Int → World → Prop} {rest : List Fv}
theorem allq_wr {a b c p at_ : Nat} {lv : Value} {bs : List Bk} (hg : g < W6.heap.size) (ng : ¬ L.own g) (ha : W6.heap[a]? = some (.cells #[lv] 69 (0, 0))) (hb : W6.heap[b]? = some (.cells #[PT p] 24 (0, 0)))
    (hc : W6.heap[c]? = some (.cells #[I at_] 3 (0, 0))) (hp : W6.cell? ⟨p, 9, none⟩ = some (PT L.p)) (hs : SlV1 KK 64 W6 lv bs) (n1 : ¬ L.own a) (n2 : ¬ L.own b) (n3 : ¬ L.own c) (n4 : ¬ L.own p) (n5 : ∀ g, lv.ownBlock = some g → ¬ L.own g ∧ g < W6.heap.size) (hat : at_ ≤ 1000000)
    {W : World} {L1 : Loc} {d1 : Dk} (hD : DkAt W L1 d1) (hV : Dv L W6 L1 W) (hops : d1.ops + bs.length < 1000000000) (hq : d1.qu.length + bs.length < 1000000)
    (hne : ∀ W' L', DkAt W' L' (writesD d1 at_ bs).1 → Dv L W6 L' W' → (writesD d1 at_ bs).2 ≠ 0 → Q (writesD d1 at_ bs).2 W')
    (heq : ∀ W' L', DkAt W' L' (writesD d1 at_ bs).1 → Dv L W6 L' W' → (writesD d1 at_ bs).2 = 0 → AllQ g Q rest W') : AllQ g Q (.wr a b c :: rest) W := by
  have za := (Array.getElem?_eq_some_iff.1 ha).1
  have zb := (Array.getElem?_eq_some_iff.1 hb).1
  have zc := (Array.getElem?_eq_some_iff.1 hc).1
  have zp := cellW_lt hp
  have hcp : W.cell? ⟨p, 9, none⟩ = some (PT L1.p) := by rw [hV.pp, ← hp]; simp only [World.cell?, hV.same p zp n4]
  refine (writes1_any hD a b c p lv bs at_ ((hV.same a za n1).trans ha) ((hV.same b zb n2).trans hb) ((hV.same c zc n3).trans hc) hcp (hs.keep hV.size fun g hg => hV.same g (n5 g hg).2 (n5 g hg).1) (hV.notown za n1) (hV.notown zb n2) (hV.notown zc n3) (hV.notown zp n4) (fun g hg => ⟨hV.notown (n5 g hg).2 (n5 g hg).1, Nat.lt_of_lt_of_le (n5 g hg).2 hV.size⟩) hops hq hat).mono fun e w' hh => ?_
  obtain ⟨L', rfl, k1, k2⟩ := hh
  have k3 := hV.trans k2
  exact ⟨_, rfl, (k3.same g hg ng).trans (hV.same g hg ng).symm, fun h => hne w' L' k1 k3 h, fun h => heq w' L' k1 k3 h⟩
theorem allq_sy (hg : g < W6.heap.size) (ng : ¬ L.own g) {W : World} {L1 : Loc} {d1 : Dk} (hD : DkAt W L1 d1) (hV : Dv L W6 L1 W) (hops : d1.ops < 1000000000)
    (hne : ∀ W' L', DkAt W' L' (syncD d1).1 → Dv L W6 L' W' → (syncD d1).2 ≠ 0 → Q (syncD d1).2 W')
    (heq : ∀ W' L', DkAt W' L' (syncD d1).1 → Dv L W6 L' W' → (syncD d1).2 = 0 → AllQ g Q rest W') : AllQ g Q (.sy L.p :: rest) W := by
  have hsy := sync_any hD hops
  rw [hV.pp] at hsy
  refine hsy.mono fun e w' hh => ?_
  obtain ⟨L', rfl, k1, k2⟩ := hh
  have k3 := hV.trans k2
  exact ⟨_, rfl, (k3.same g hg ng).trans (hV.same g hg ng).symm, fun h => hne w' L' k1 k3 h, fun h => heq w' L' k1 k3 h⟩
end
/-- What a new log's five things lead to. -/
def PostFm (gW : Nat) (L : Loc) (w : World) (n : Nat) (d : Dk) (sv : Value) (e : Ending) (w' : World) : Prop :=
  ∃ L', e = .returned (I (fmtD HW d n).2) ∧ DkAt w' L' (fmtD HW d n).1 ∧ Wv gW L w L' w' ∧ w'.heap[gW]? = some (.cells (WR (if (fmtD HW d n).2 = 0 then firstC HW n else zeroC) L.p sv false) 64 (0, 0))
theorem fm_all {w0 A W6 : World} (G : Glob w0) (k0 : Ex w0 A) {L : Loc} {d : Dk} (hD : DkAt A L d) (k : Ex A W6) (gW g a b c a' b' c' x y n : Nat) (lv0 lv1 sv : Value) (hn : n ≤ 1000)
    (hg : W6.heap[g]? = some (.cells ([Fv.wr a b c, .sy L.p, .wr a' b' c', .sy L.p, .hd x y].map valF).toArray 67 (0, 0)))
    (ha : W6.heap[a]? = some (.cells #[lv0] 69 (0, 0))) (hb : W6.heap[b]? = some (.cells #[PT gW] 24 (0, 0))) (hc : W6.heap[c]? = some (.cells #[I ((0 : Nat) : Int)] 3 (0, 0)))
    (ha' : W6.heap[a']? = some (.cells #[lv1] 69 (0, 0))) (hb' : W6.heap[b']? = some (.cells #[PT gW] 24 (0, 0))) (hc' : W6.heap[c']? = some (.cells #[I ((2 : Nat) : Int)] 3 (0, 0)))
    (hx : W6.heap[x]? = some (.cells #[PT gW] 24 (0, 0))) (hy : W6.heap[y]? = some (.cells (CR (firstC HW n)) 62 (0, 0))) (hp : W6.heap[gW]? = some (.cells (WR zeroC L.p sv false) 64 (0, 0)))
    (s0 : SlV1 KK 64 W6 lv0 [zeroB, zeroB]) (s1 : SlV1 KK 64 W6 lv1 (sheetB [])) (z : ∀ i ∈ [g, a, b, c, a', b', c', x, y], A.heap.size ≤ i) (nW : ¬ L.own gW)
    (l0 : ∀ i, lv0.ownBlock = some i → A.heap.size ≤ i ∧ i < W6.heap.size) (l1 : ∀ i, lv1.ownBlock = some i → A.heap.size ≤ i ∧ i < W6.heap.size)
    (hops : d.ops + 100 < 1000000000) (hq : d.qu.length + 100 < 1000000) (ho : ∀ x, L.own x → w0.heap.size ≤ x) :
    Calls Tryd.prog 35 #[.slice (some ⟨g, 0, none⟩) 5 5] W6 (PostFm gW L W6 n d sv) := by
  have hown : ∀ i, A.heap.size ≤ i → ¬ L.own i := fun i hi e => by have := hD.lt e; omega
  have hz : ∀ i ∈ [g, a, b, c, a', b', c', x, y], ¬ L.own i := fun i hi => hown i (z i hi)
  have zg := (Array.getElem?_eq_some_iff.1 hg).1
  have zx := (Array.getElem?_eq_some_iff.1 hx).1
  have zy := (Array.getElem?_eq_some_iff.1 hy).1
  have zW := (Array.getElem?_eq_some_iff.1 hp).1
  have ng := hz g (by simp)
  have hp9 := (block_cellF (o := 9) (v := PT L.p) hp rfl).1
  refine (all_any (Q := fun e w' => e = (fmtD HW d n).2 ∧ PostFm gW L W6 n d sv (.returned (I (fmtD HW d n).2)) w') [Fv.wr a b c, .sy L.p, .wr a' b' c', .sy L.p, .hd x y] W6 g 5 rfl (by omega) hg ?_).mono fun e w' ⟨c9, he, hc9, h1⟩ => by rw [he, hc9]; exact h1
  have fin : ∀ (r : Dk × Int), fmtD HW d n = r → r.2 ≠ 0 → ∀ W' L', DkAt W' L' r.1 → Dv L W6 L' W' → (r.2 = (fmtD HW d n).2 ∧ PostFm gW L W6 n d sv (.returned (I (fmtD HW d n).2)) W') := fun r hr hne W' L' k1 k2 => by
    rw [hr]
    refine ⟨rfl, L', by rw [hr], by rw [hr]; exact k1, Wv.ofDv k2, ?_⟩
    rw [hr, if_neg hne]
    exact (k2.same gW zW nW).trans hp
  have hsl : (sheetB []).length = 1 := by rw [sheetB_len]; rfl
  have o1 := writes_ops [zeroB, zeroB] d ((0 : Nat) : Int)
  simp only [List.length_cons, List.length_nil] at o1
  have e0 : fmtD HW d n = thenD (thenD (thenD (thenD (writesD d ((0 : Nat) : Int) [zeroB, zeroB]) syncD) fun d => writesD d ((2 : Nat) : Int) (sheetB [])) syncD) fun d => headD HW d (firstC HW n) := rfl
  refine allq_wr zg ng ha hb hc hp9 s0 (hz a (by simp)) (hz b (by simp)) (hz c (by simp)) nW (fun i hi => ⟨hown i (l0 i hi).1, (l0 i hi).2⟩) (by omega) (hD.ex k) (Dv.refl _ _) (by simp only [List.length_cons, List.length_nil]; omega) (by simp only [List.length_cons, List.length_nil]; omega) (fun W' L' k1 k2 hne => fin _ (by rw [e0, thenD_ne hne, thenD_ne hne, thenD_ne hne, thenD_ne hne]) hne W' L' k1 k2) fun W1 L1 k1 k2 h1 => ?_
  rw [thenD_eq h1] at e0
  have o2 := sync_ops (writesD d ((0 : Nat) : Int) [zeroB, zeroB]).1
  generalize (writesD d ((0 : Nat) : Int) [zeroB, zeroB]).1 = d1 at *
  refine allq_sy zg ng k1 k2 (by omega) (fun W' L' k1 k2 hne => fin _ (by rw [e0, thenD_ne hne, thenD_ne hne, thenD_ne hne]) hne W' L' k1 k2) fun W2 L2 k3 k4 h2 => ?_
  rw [thenD_eq h2] at e0
  generalize (syncD d1).1 = d2 at *
  have o3 := writes_ops (sheetB []) d2 ((2 : Nat) : Int)
  rw [hsl] at o3
  refine allq_wr zg ng ha' hb' hc' hp9 s1 (hz a' (by simp)) (hz b' (by simp)) (hz c' (by simp)) nW (fun i hi => ⟨hown i (l1 i hi).1, (l1 i hi).2⟩) (by omega) k3 k4 (by rw [hsl]; omega) (by rw [hsl]; omega) (fun W' L' k1 k2 hne => fin _ (by rw [e0, thenD_ne hne, thenD_ne hne]) hne W' L' k1 k2) fun W3 L3 k5 k6 h3 => ?_
  rw [thenD_eq h3] at e0
  have o4 := sync_ops (writesD d2 ((2 : Nat) : Int) (sheetB [])).1
  generalize (writesD d2 ((2 : Nat) : Int) (sheetB [])).1 = d3 at *
  refine allq_sy zg ng k5 k6 (by omega) (fun W' L' k1 k2 hne => fin _ (by rw [e0, thenD_ne hne]) hne W' L' k1 k2) fun W4 L4 k7 k8 h4 => ?_
  rw [thenD_eq h4] at e0
  generalize (syncD d3).1 = d4 at *
  have k04 : Ex w0 W4 := ex_of_below ((ex_below (ex_trans k0 k)).trans (k8.below (ex_size (ex_trans k0 k)) ho))
  have hcB : CmB (firstC HW n) := ⟨by show 1 < 4294967296; omega, by show n < _; omega, by show 0 < 4294967296; omega, by show 1 < 4294967296; omega, by show 1 < 4294967296; omega, HW_len _⟩
  refine (head1_any G k04 k7 gW x y (firstC HW n) zeroC sv false hcB (by rw [k8.pp]; exact (k8.same gW zW nW).trans hp) ((k8.same x zx (hz x (by simp))).trans hx) ((k8.same y zy (hz y (by simp))).trans hy) (k8.notown zW nW) (k8.notown zx (hz x (by simp))) (k8.notown zy (hz y (by simp))) (by omega) (by omega)).mono fun e w' hh => ?_
  obtain ⟨L', he, hd, hv, hb9⟩ := hh
  rw [k8.pp] at hb9
  have hvv := (Wv.ofDv (p := gW) k8).trans hv
  refine ⟨_, he, ?_, fun _ => ?_, fun _ => ?_⟩
  · refine hv.fr.same g (Nat.lt_of_lt_of_le zg k8.size) fun e => ?_
    rcases e with e | e
    · have h8 := k8.same gW zW nW
      rw [hp, ← e] at h8
      have h9 := (k8.same g zg ng).trans hg
      rw [h8] at h9
      injection h9 with h9
      injection h9 with _ ht _
      exact absurd ht (by decide)
    · exact k8.notown zg ng e
  · rw [e0]
    exact ⟨rfl, L', by rw [e0], by rw [e0]; exact hd, hvv, by rw [e0]; exact hb9⟩
  · rename_i h0
    unfold AllQ
    rw [e0]
    exact ⟨h0.symm, L', by rw [e0], by rw [e0]; exact hd, hvv, by rw [e0]; exact hb9⟩
end Go.Proofs.YtabjamkkhlbajaaDoor

/- The log: Format, walked. -/
set_option linter.unusedSimpArgs false
set_option linter.unusedVariables false
set_option linter.unnecessarySimpa false
set_option maxRecDepth 20000
namespace Go.Proofs.YtabjamkkhlbajaaDoor
open Go.RowKit
def build5Run (P : Program) (t : TypeId) (v0 v1 v3 v4 v5 : Value) (w : World) : Result Next := ((Instr.build t #[(0, v0), (1, v1), (3, v3), (4, v4), (5, v5)]).run P w).andThen fun x w' => .ok (.value x) w'
@[go_sem ↓ high] theorem run_build5_pre {P : Program} (ρ : Operand → Value) (d : Option Tmp) (t : TypeId) (x0 x1 x3 x4 x5 : Operand) (ty : TypeId) (pos : String) (aft : Array Edge) (g : Option (Nat × Bool)) (w : World) :
    Sem.run P (execOp ρ ⟨d, .build t #[(0, x0), (1, x1), (3, x3), (4, x4), (5, x5)], ty, pos, aft, g⟩) w = build5Run P t (ρ x0) (ρ x1) (ρ x3) (ρ x4) (ρ x5) w := by
  simp only [execOp, Sem.run_bind, Sem.run_pure, build5Run, List.map_toArray, List.map_cons, List.map_nil]
@[go_sem low] theorem build5Run_other {P : Program} (t : TypeId) (v0 v1 v3 v4 v5 : Value) (w : World) : build5Run P t v0 v1 v3 v4 v5 w = ((Instr.build t #[(0, v0), (1, v1), (3, v3), (4, v4), (5, v5)]).run P w).andThen fun x w' => .ok (.value x) w' := rfl
theorem built5_claim (n : Int) (f : Nat → UInt8) : Tryd.prog.built 62 [(0, .int .u32 1), (1, .int .u32 n), (3, .int .u32 1), (4, .int .u32 1), (5, .agg (rowB 4 f))] = some #[.int .u32 1, .int .u32 n, .int .u32 0, .int .u32 1, .int .u32 1, B (f 0), B (f 1), B (f 2), B (f 3)] := by kernel_rfl
@[go_sem] theorem build5_claim (n : Int) (f : Nat → UInt8) (w : World) : build5Run Tryd.prog 62 (.int .u32 1) (.int .u32 n) (.int .u32 1) (.int .u32 1) (.agg (rowB 4 f)) w = .ok (.value (.agg #[.int .u32 1, .int .u32 n, .int .u32 0, .int .u32 1, .int .u32 1, B (f 0), B (f 1), B (f 2), B (f 3)])) w := by
  unfold build5Run
  rw [run_build w _ _ _ (built5_claim n f)]; rfl
theorem first_row (n : Nat) : (#[.int .u32 1, .int .u32 (n : Int), .int .u32 0, .int .u32 1, .int .u32 1, B (gF (HW [0, 0, 0, 0]) 0), B (gF (HW [0, 0, 0, 0]) 1), B (gF (HW [0, 0, 0, 0]) 2), B (gF (HW [0, 0, 0, 0]) 3)] : Array Value) = CR (firstC HW n) := rfl
set_option maxHeartbeats 1000000 in
theorem format_any {w0 w : World} (G : Glob w0) (k0 : Ex w0 w) {L : Loc} {d : Dk} (h : DkAt w L d) (n : Int) (ho : ∀ x, L.own x → w0.heap.size ≤ x) (hops : d.ops + 4000 < 1000000000) (hq : d.qu.length + 2000 < 1000000) :
    Calls Tryd.prog 8 #[PT L.p, I n] w (PostOp w L (formatD HW d n)) := by
  have HMy : Hid (Calls Tryd.prog 33 #[PT L.p, I n] w (Post w (.bool (mayI d n)))) := Lib.hid (may_any h n)
  have HD := Lib.hid h
  have Ho := Lib.hid ho
  by_cases hm : mayI d n = true
  · have hfd : formatD HW d n = ((fmtD HW d n.toNat).1, (if (fmtD HW d n.toNat).2 = 0 then some ⟨firstC HW n.toNat, [[]], false⟩ else none), (fmtD HW d n.toNat).2) := by unfold formatD; rw [if_pos hm]
    replace hfd := Lib.hid hfd
    rw [hm] at HMy
    have hm2 := hm
    unfold mayI at hm2
    simp only [Bool.and_eq_true, decide_eq_true_eq] at hm2
    obtain ⟨⟨m1, m2⟩, _⟩ := hm2
    obtain ⟨m, rfl⟩ : ∃ m : Nat, n = m := ⟨n.toNat, by omega⟩
    rw [Int.toNat_natCast] at hfd
    have em : (m : Int) % 4294967296 = m := by omega
    clear h ho hm
    have HDg : Hid (∀ w' g g0, Ex w w' → (w'.cell? ⟨g0, 0, none⟩ = some (.int .u8 0) ∧ w'.cell? ⟨g0, 1, none⟩ = some (.int .u8 0) ∧ w'.cell? ⟨g0, 2, none⟩ = some (.int .u8 0) ∧ w'.cell? ⟨g0, 3, none⟩ = some (.int .u8 0)) → w'.cell? ⟨g, 0, none⟩ = some (.slice (some ⟨g0, 0, none⟩) 4 4) → Calls Tryd.prog 34 #[.slice (some ⟨g, 0, none⟩) 1 1] w' (Post w' (.agg (rowB 4 (gF (HW [0, 0, 0, 0])))))) := Lib.hid fun w' g g0 k hb hc =>
      digest1_any G (ex_trans k0 k) hc ⟨_, 4, rfl, by decide, by decide, (fun e => by cases e), SlB.mk' (cellW_lt hb.1) fun j hj => by
        have hj : j < 4 := hj
        rw [Nat.zero_add]
        match j, hj with
        | 0, _ => exact hb.1
        | 1, _ => exact hb.2.1
        | 2, _ => exact hb.2.2.1
        | 3, _ => exact hb.2.2.2⟩ (by decide)
    go_enter Tryd.func8, Tryd.ntmps8
    go_wp2_with (first | (go_at_call 33; (with_reducible refine HMy.out.mono ?_); rintro e w2 ⟨rfl, X2, rfl⟩) | (go_at_call 34; (with_reducible refine (HDg.out _ _ (w.heap.size + X2.blocks.length + 1 + 1) (by (try show Ex _ _); with_reducible repeat (first | exact ex_refl _ | assumption | refine ex_drewL ?_ | refine ex_appR ?_ _ | refine ex_wx ?_ _ | refine ex_drew ?_ | refine ex_alloc ?_ _)) (by simp [go_sem, bn]) (by simp [go_sem])).mono ?_); rintro e w3 ⟨rfl, X3, rfl⟩))
    refine wp_worldW fun A hA => ?_
    have kA : Ex w A := by rw [← hA]; exact (by (try show Ex _ _); with_reducible repeat (first | exact ex_refl _ | assumption | refine ex_drewL ?_ | refine ex_appR ?_ _ | refine ex_wx ?_ _ | refine ex_drew ?_ | refine ex_alloc ?_ _))
    have hbS : A.heap[w.heap.size + X2.blocks.length]? = some (.cells #[.slice none 0 0] 22 (0, 0)) := by
      rw [← hA, ← wx_size w X2]
      exact ex_block (w := (wx w X2).alloc (.cells #[.slice none 0 0] 22)) (by (try show Ex _ _); with_reducible repeat (first | exact ex_refl _ | assumption | refine ex_drewL ?_ | refine ex_appR ?_ _ | refine ex_wx ?_ _ | refine ex_drew ?_ | refine ex_alloc ?_ _)) (heap_alloc_new _ _)
    have hbW : A.heap[w.heap.size + X2.blocks.length + 1]? = some (.cells (WR zeroC L.p (.slice (some ⟨w.heap.size + X2.blocks.length, 0, none⟩) 1 1) false) 64 (0, 0)) := by
      rw [← hA]
      refine ex_block (w := ((wx w X2).alloc (.cells #[.slice none 0 0] 22)).alloc (.cells (WR zeroC L.p (.slice (some ⟨w.heap.size + X2.blocks.length, 0, none⟩) 1 1) false) 64)) (by (try show Ex _ _); with_reducible repeat (first | exact ex_refl _ | assumption | refine ex_drewL ?_ | refine ex_appR ?_ _ | refine ex_wx ?_ _ | refine ex_drew ?_ | refine ex_alloc ?_ _)) ?_
      rw [← wx_size w X2, ← World.size_alloc (wx w X2) (.cells #[.slice none 0 0] 22)]
      exact heap_alloc_new _ _
    have hb7 : A.heap[w.heap.size + X2.blocks.length + 1 + 1 + 1 + 1 + X3.blocks.length]? = some (.cells (CR (firstC HW m)) 62 (0, 0)) := by
      rw [← hA, ← first_row]
      have := heap_alloc_new (wx (((((wx w X2).alloc (.cells #[.slice none 0 0] 22)).alloc (.cells (WR zeroC L.p (.slice (some ⟨w.heap.size + X2.blocks.length, 0, none⟩) 1 1) false) 64)).alloc (.cells (rowB 4 fun _ => 0) 5)).alloc (.cells #[.slice (some ⟨w.heap.size + X2.blocks.length + 1 + 1, 0, none⟩) 4 4] 22)) X3) (.cells #[.int .u32 1, .int .u32 (m : Int), .int .u32 0, .int .u32 1, .int .u32 1, B (gF (HW [0, 0, 0, 0]) 0), B (gF (HW [0, 0, 0, 0]) 1), B (gF (HW [0, 0, 0, 0]) 2), B (gF (HW [0, 0, 0, 0]) 3)] 62)
      simpa only [World.size_alloc, wx_size] using this
    clear hA
    obtain ⟨gS, hgS⟩ : ∃ g, w.heap.size + X2.blocks.length = g := ⟨_, rfl⟩
    rw [hgS] at hbS hbW hb7 ⊢
    obtain ⟨g7, hg7⟩ : ∃ g, gS + 1 + 1 + 1 + 1 + X3.blocks.length = g := ⟨_, rfl⟩
    rw [hg7] at hb7 ⊢
    obtain ⟨gW, hgW⟩ : ∃ g, gS + 1 = g := ⟨_, rfl⟩
    rw [hgW] at hbW ⊢
    have hw9 : w.heap.size ≤ gW ∧ gW ≠ g7 := by omega
    have HDA := Lib.hid (HD.out.ex kA)
    have k0A := Lib.hid (ex_trans k0 kA)
    have nW : ¬ L.own gW := fun e => by have := HD.out.lt e; omega
    have n7 : ¬ L.own g7 := fun e => by have := HD.out.lt e; omega
    obtain ⟨P1, hP1⟩ : ∃ P1 : Nat → Prop, P1 = fun x => x = gW ∨ L.own x := ⟨_, rfl⟩
    have np7 : ¬ P1 g7 := by rw [hP1]; exact fun e => e.elim (fun e => hw9.2 e.symm) n7
    have HP1 : Hid (∀ x, ¬ P1 x → ¬ (x = gW ∨ L.own x)) := Lib.hid (by rw [hP1]; exact fun x hx => hx)
    obtain ⟨c7, f7, z7⟩ := block_cellsF (n := 9) hb7 rfl
    have HbW := Lib.hid hbW
    have HbS := Lib.hid hbS
    have HW0 : Hid (∀ w' lv, lv.oneCell' = true → Calls Tryd.prog 36 #[PT gW, .int .i64 0, lv] w' (fun e w2 => ∃ a b c, e = .returned (.func (.func 58) #[] #[PT a, PT b, PT c]) ∧ Hid (WrF w' w2 gW 0 lv a b c))) := Lib.hid fun w' lv h => writes_o gW 0 lv h w'
    have HW2 : Hid (∀ w' lv, lv.oneCell' = true → Calls Tryd.prog 36 #[PT gW, .int .i64 2, lv] w' (fun e w2 => ∃ a b c, e = .returned (.func (.func 58) #[] #[PT a, PT b, PT c]) ∧ Hid (WrF w' w2 gW 2 lv a b c))) := Lib.hid fun w' lv h => writes_o gW 2 lv h w'
    have HHd := Lib.hid fun w' => headf_o gW (firstC HW m) w'
    have HSn : Hid (∀ w', Calls Tryd.prog 38 #[.slice none 0 0] w' (fun e w2 => ∃ v', e = .returned v' ∧ w2.ownsRow w'.heap.size 75 64 v' (sheetB []).length ((sheetB []).flatMap KK) ∧ ∃ X, w2 = wx w' X)) := Lib.hid fun w' => sheet_any (slt_nil w') (by simp)
    have HAl : Hid (∀ (W3 W4 W5 W6 W7 V4 V6 V7 : World) (g a b c a' b' c' x y Zb : Nat) (lv1 : Value), Ex (A.alloc (.cells (manyC (.agg (rowB 64 fun _ => 0)) 128) 75)) W3 → Hid (WrF W3 W4 gW 0 (.slice (some ⟨A.heap.size, 0, none⟩) 2 2) a b c) → Ex W4 V4 → Hid (W5.ownsRow Zb 75 64 lv1 (sheetB []).length ((sheetB []).flatMap KK)) → Zb = V4.heap.size → Ex V4 W5 → Hid (WrF W5 W6 gW 2 lv1 a' b' c') → Ex W6 V6 → Hid (HdF V6 W7 gW (firstC HW m) x y) → Ex W7 V7 → g = V7.heap.size →
        Calls Tryd.prog 35 #[.slice (some ⟨g, 0, none⟩) 5 5] (V7.alloc (.cells ([Fv.wr a b c, .sy L.p, .wr a' b' c', .sy L.p, .hd x y].map valF).toArray 67)) (fun e w' => ∃ L', e = .returned (I (fmtD HW d m).2) ∧ Hid (DkAt w' L' (fmtD HW d m).1 ∧ Wv gW L A L' w' ∧ w'.heap[gW]? = some (.cells (WR (if (fmtD HW d m).2 = 0 then firstC HW m else zeroC) L.p (.slice (some ⟨gS, 0, none⟩) 1 1) false) 64 (0, 0))))) := Lib.hid fun W3 W4 W5 W6 W7 V4 V6 V7 g a b c a' b' c' x y Zb lv1 x3 h1 x4 h2 hZb x5 h3 x6 h4 x7 hg => by
      subst hg
      have h1 := h1.out
      have h2 := h2.out
      have h3 := h3.out
      have h4 := h4.out
      have e0 := ex_size x3
      rw [World.size_alloc] at e0
      have e1 := ex_size h1.ex
      have e2 := ex_size x4
      have e3 := ex_size x5
      have e4 := ex_size h3.ex
      have e5 := ex_size x6
      have e6 := ex_size h4.ex
      have e7 := ex_size x7
      have q1 := h1.za
      have q2 := h1.zb
      have q3 := h1.zc
      have q4 := h3.za
      have q5 := h3.zb
      have q6 := h3.zc
      have q7 := h4.zx
      have q8 := h4.zy
      have k5 : Ex W7 (V7.alloc (.cells ([Fv.wr a b c, .sy L.p, .wr a' b' c', .sy L.p, .hd x y].map valF).toArray 67)) := ex_alloc x7 _
      have k4 := ex_trans x6 (ex_trans h4.ex k5)
      have k3 := ex_trans h3.ex k4
      have k2 := ex_trans x4 (ex_trans x5 k3)
      have k1 := ex_trans x3 (ex_trans h1.ex k2)
      have kAA : Ex A _ := ex_trans (ex_alloc (ex_refl A) _) k1
      have hl1 : ∀ i, lv1.ownBlock = some i → Zb ≤ i ∧ i < W5.heap.size := fun i hi => World.ownsRow.lt h2 i hi
      refine (fm_all (lv0 := .slice (some ⟨A.heap.size, 0, none⟩) 2 2) (lv1 := lv1) (sv := .slice (some ⟨gS, 0, none⟩) 1 1) G k0A.out HDA.out kAA gW V7.heap.size a b c a' b' c' x y m (by omega) (heap_alloc_new _ _) (ex_block k2 h1.ba) (ex_block k2 h1.bb) (ex_block k2 h1.bc) (ex_block k4 h3.ba) (ex_block k4 h3.bb) (ex_block k4 h3.bc) (ex_block k5 h4.bx) (ex_block k5 h4.by') (ex_block kAA HbW.out) (SlV1.of_own KK_len (by omega) (own_zero 2 (by omega) rfl k1)) (SlV1.of_own KK_len (by omega) (owns_ex h2 k3)) ?_ nW ?_ ?_ (by omega) (by omega) Ho.out).mono fun e w' hh => ?_
      · intro i hi
        simp only [List.mem_cons, List.not_mem_nil, or_false] at hi
        omega
      · intro i hi
        obtain rfl : A.heap.size = i := Option.some.inj hi
        exact ⟨Nat.le_refl _, by rw [World.size_alloc]; omega⟩
      · intro i hi
        have := hl1 i hi
        exact ⟨by omega, by rw [World.size_alloc]; omega⟩
      · obtain ⟨L', e0, y1, y2, y3⟩ := hh
        exact ⟨L', e0, Lib.hid ⟨y1, (Wv.ofDv (Dv.ofEx kAA)).trans y2, y3⟩⟩
    clear hb7 hbW hbS hgS hg7 hgW hP1 n7
    obtain ⟨rh, hrh⟩ : ∃ rh, fmtD HW d m = rh := ⟨_, rfl⟩
    rw [hrh] at HAl hfd
    clear hrh
    unfold valF at HAl
    simp only [List.map_cons, List.map_nil] at HAl
    refine wp_region_forkH (fun w' => ∃ X, w' = kp A P1 X) (.look 0 (.look 3 (.look 4 (.look 5 (.look 8 (.look 9 (.look 10 (.look 11 (.eff 1 (.eff 2 (.eff 6 (.eff 7 (.eff 12 (.eff 13 (.eff 14 (.look 15 .done)))))))))))))))) (⟨_, kp_of (fun _ _ _ => rfl)⟩) (by kernel_rfl) (by kernel_rfl) (fun _ _ d _ _ h => by cases d <;> exact h) ?_
    simp only [Fk.ops, nth]
    repeat (first | ((with_reducible refine wpForkH_look ?_); go_big_quiet_step (fail); (try (with_reducible refine wpQuiet_nil ?_))) | (with_reducible refine wpForkH_eff ?_) | ((with_reducible refine effH_F ?_ ?_); (focus rfl); go_simp) | ((with_reducible refine effH_T ?_ ?_); (focus rfl); (try dsimp only); go_wp2_with (first | (go_at_call 36; (with_reducible refine (HW0.out _ _ rfl).mono ?_); rintro e w4 ⟨a1, b1, c1, rfl, h1⟩; have kx1 : Ex A w4 := ex_trans (by (try show Ex _ _); with_reducible repeat (first | exact ex_refl _ | assumption | refine ex_drewL ?_ | refine ex_appR ?_ _ | refine ex_wx ?_ _ | refine ex_drew ?_ | refine ex_alloc ?_ _)) h1.out.ex) | (go_at_call 36; (with_reducible refine (HW2.out _ _ rfl).mono ?_); rintro e w6 ⟨a2, b2, c2, rfl, h3⟩; have kx3 : Ex A w6 := ex_trans (by (try show Ex _ _); with_reducible repeat (first | exact ex_refl _ | assumption | refine ex_drewL ?_ | refine ex_appR ?_ _ | refine ex_wx ?_ _ | refine ex_drew ?_ | refine ex_alloc ?_ _)) h3.out.ex) | (go_at_call 38; (with_reducible refine (HSn.out _).mono ?_); rintro e w5 ⟨lv, rfl, hlv, X5, rfl⟩; obtain ⟨al, cl, rfl, _⟩ := own_form9 hlv; replace hlv := Lib.hid hlv) | (go_at_call 39; (with_reducible refine (HHd.out _).mono ?_); rintro e w7 ⟨x1, y1, rfl, h4⟩; have kx4 : Ex A w7 := ex_trans (by (try show Ex _ _); with_reducible repeat (first | exact ex_refl _ | assumption | refine ex_drewL ?_ | refine ex_appR ?_ _ | refine ex_wx ?_ _ | refine ex_drew ?_ | refine ex_alloc ?_ _)) h4.out.ex) | (go_at_call 35; (refine (HAl.out _ _ _ _ _ _ _ _ _ a1 b1 c1 a2 b2 c2 x1 y1 _ _ (by (try show Ex _ _); with_reducible repeat (first | exact ex_refl _ | assumption | refine ex_drewL ?_ | refine ex_appR ?_ _ | refine ex_wx ?_ _ | refine ex_drew ?_ | refine ex_alloc ?_ _)) h1 (by (try show Ex _ _); with_reducible repeat (first | exact ex_refl _ | assumption | refine ex_drewL ?_ | refine ex_appR ?_ _ | refine ex_wx ?_ _ | refine ex_drew ?_ | refine ex_alloc ?_ _)) hlv rfl (by (try show Ex _ _); with_reducible repeat (first | exact ex_refl _ | assumption | refine ex_drewL ?_ | refine ex_appR ?_ _ | refine ex_wx ?_ _ | refine ex_drew ?_ | refine ex_alloc ?_ _)) h3 (by (try show Ex _ _); with_reducible repeat (first | exact ex_refl _ | assumption | refine ex_drewL ?_ | refine ex_appR ?_ _ | refine ex_wx ?_ _ | refine ex_drew ?_ | refine ex_alloc ?_ _)) h4 (by (try show Ex _ _); with_reducible repeat (first | exact ex_refl _ | assumption | refine ex_drewL ?_ | refine ex_appR ?_ _ | refine ex_wx ?_ _ | refine ex_drew ?_ | refine ex_alloc ?_ _)) rfl).mono ?_); rintro e w8 ⟨L2, rfl, hy⟩)); (first | done | refine mixQH_mk (⟨_, kp_of (by intro x hx hp9; first | (refine (ex_below (?_ : Ex A _)).block x hx; (with_reducible repeat (first | exact ex_refl _ | assumption | refine ex_drewL ?_ | refine ex_appR ?_ _ | refine ex_wx ?_ _ | refine ex_drew ?_ | refine ex_alloc ?_ _)); done) | exact hy.out.2.1.fr.same x hx (HP1.out x hp9))⟩) ?_)))
    all_goals (with_reducible refine wpForkH_nil ?_)
    have hVw := Lib.hid ((Wv.ofDv (p := gW) (L := L) (Dv.ofEx kA)).trans hy.out.2.1)
    have hSA : SlSh A (.slice (some ⟨gS, 0, none⟩) 1 1) [[]] := ⟨_, 1, rfl, Nat.le_refl _, by decide, (fun e => by cases e), Or.inr ⟨gS, 0, _, _, rfl, HbS.out, fun j l hl => by
      have hj : j < 1 := (List.getElem?_eq_some_iff.1 hl).1
      obtain rfl : j = 0 := by omega
      obtain rfl : [] = l := by simpa using hl
      exact ⟨.slice none 0 0, rfl, TyB.zero _ _⟩⟩⟩
    have HSA := Lib.hid (hSA.ky (hy.out.2.1.ky HDA.out HbW.out))
    have hno : Hid (¬ L2.own gW) := Lib.hid fun e => (hy.out.2.1.own e).elim nW fun e2 => by
      have := (Array.getElem?_eq_some_iff.1 HbW.out).1
      omega
    clear hSA c7 f7 z7
    obtain ⟨d9, er⟩ := rh
    dsimp only at hy hfd ⊢
    by_cases her : er = 0
    · subst her
      go_wp2
      go_ret2
      rw [hfd.out]
      have hb9 := hy.out.2.2
      simp only [if_true] at hb9 ⊢
      exact ⟨_, L2, rfl, hVw.out.dv hw9.1, hy.out.1, gW, rfl, ⟨hy.out.1, ⟨_, by rw [hVw.out.pp]; exact hb9, HSA.out⟩, hno.out⟩, hw9.1⟩
    · have u1 : (er != 0) = true := by simp [her]
      have u2 : (er == 0) = false := by simp [her]
      have Her := Lib.hid her
      clear her
      go_wp2
      go_ret2
      rw [hfd.out, if_neg Her.out]
      exact ⟨_, L2, rfl, hVw.out.dv hw9.1, hy.out.1, rfl⟩
  · have hfd : formatD HW d n = (d, none, 2) := by unfold formatD; rw [if_neg hm]
    rw [hfd]
    have hm2 : mayI d n = false := by simpa using hm
    rw [hm2] at HMy
    clear h ho hm hfd
    go_enter Tryd.func8, Tryd.ntmps8
    go_wp2_with (go_at_call 33; (with_reducible refine HMy.out.mono ?_); rintro e w2 ⟨rfl, X2, rfl⟩)
    go_ret2
    exact PostOp.err (HD.out.ex (by (try show Ex _ _); with_reducible repeat (first | exact ex_refl _ | assumption | refine ex_drewL ?_ | refine ex_appR ?_ _ | refine ex_wx ?_ _ | refine ex_drew ?_ | refine ex_alloc ?_ _))) (Dv.ofEx (by (try show Ex _ _); with_reducible repeat (first | exact ex_refl _ | assumption | refine ex_drewL ?_ | refine ex_appR ?_ _ | refine ex_wx ?_ _ | refine ex_drew ?_ | refine ex_alloc ?_ _)))
end Go.Proofs.YtabjamkkhlbajaaDoor

/- The log: a law's world: what its calls keep, and its disk and its log in it. -/
set_option linter.unusedSimpArgs false
set_option linter.unusedVariables false
set_option maxRecDepth 20000
namespace Go.Proofs.YtabjamkkhlbajaaDoor
open Go.RowKit
/-- The types whose blocks a disk and a log turn. -/
def Tz (t : TypeId) : Prop := t = 89 ∨ t = 75 ∨ t = 113 ∨ t = 64
theorem Tz.of3 {t : TypeId} (h : t = 89 ∨ t = 75 ∨ t = 113) : Tz t := h.elim Or.inl fun h => h.elim (fun h => Or.inr (Or.inl h)) fun h => Or.inr (Or.inr (Or.inl h))
/-- What the calls of a law keep. -/
structure Kz (Z : Nat) (W W' : World) : Prop where
  os : W'.os = W.os
  tape : W'.tape = W.tape
  output : W'.output = W.output
  size : W.heap.size ≤ W'.heap.size
  low : ∀ b, b < Z → b < W.heap.size → W'.heap[b]? = W.heap[b]?
  ty : ∀ (g : Nat) (cs : Array Value) (t : TypeId) (fr : Nat × Nat), W.heap[g]? = some (.cells cs t fr) → ¬ Tz t → W'.heap[g]? = some (.cells cs t fr)
theorem Kz.ofEx {Z : Nat} {W W' : World} (k : Ex W W') : Kz Z W W' := by
  have h := ex_below k
  exact ⟨h.os, h.tape, h.output, h.size, fun b _ hb => h.block b hb, fun g cs t fr hg _ => ex_block k hg⟩
theorem Kz.refl (Z : Nat) (W : World) : Kz Z W W := Kz.ofEx (ex_refl W)
theorem Kz.trans {Z : Nat} {A B C : World} (h : Kz Z A B) (k : Kz Z B C) : Kz Z A C :=
  ⟨k.os.trans h.os, k.tape.trans h.tape, k.output.trans h.output, Nat.le_trans h.size k.size, fun b h1 h2 => (k.low b h1 (Nat.lt_of_lt_of_le h2 h.size)).trans (h.low b h1 h2), fun g cs t fr hg ht => k.ty g cs t fr (h.ty g cs t fr hg ht) ht⟩
theorem Kz.ky {Z : Nat} {W W' : World} (k : Kz Z W W') : Ky W W' := fun g cs t fr hg ht => k.ty g cs t fr hg fun h => by
  unfold Tz at h
  rcases ht with rfl | rfl <;> exact absurd h (by decide)
theorem Kz.ex {w0 W W' : World} (k : Kz w0.heap.size W W') (h : Ex w0 W) : Ex w0 W' := by
  have hb := ex_below h
  exact ex_of_below ⟨k.os.trans hb.os, k.tape.trans hb.tape, k.output.trans hb.output, Nat.le_trans hb.size k.size, fun b h1 => (k.low b h1 (Nat.lt_of_lt_of_le h1 hb.size)).trans (hb.block b h1)⟩
theorem Kz.ofDv {Z : Nat} {L L' : Loc} {W W' : World} {d : Dk} (h : Dv L W L' W') (hd : DkAt W L d) (ho : ∀ x, L.own x → Z ≤ x) : Kz Z W W' :=
  ⟨h.os, h.tape, h.output, h.size, fun b h1 h2 => h.same b h2 fun e => by have := ho b e; omega, fun g cs t fr hg ht => by
    rw [h.same g (Array.getElem?_eq_some_iff.1 hg).1 fun e => ?_]
    · exact hg
    · obtain ⟨cs3, t3, fr3, h3, ht3⟩ := hd.types e
      rw [h3] at hg
      cases hg
      exact ht (Tz.of3 ht3)⟩
theorem Kz.ofWv {Z p : Nat} {L L' : Loc} {W W' : World} {d : Dk} {wl : Wl} (h : Wv p L W L' W') (hd : LgM W p L d wl) (ho : ∀ x, L.own x → Z ≤ x) (hp : Z ≤ p) : Kz Z W W' :=
  ⟨h.fr.os, h.fr.tape, h.fr.output, h.fr.size, fun b h1 h2 => h.fr.same b h2 fun e => e.elim (fun e => by omega) fun e => by have := ho b e; omega, fun g cs t fr hg ht => by
    rw [h.fr.same g (Array.getElem?_eq_some_iff.1 hg).1 fun e => ?_]
    · exact hg
    · rcases e with rfl | e
      · obtain ⟨sv, hb, _⟩ := hd.out
        rw [hb] at hg
        cases hg
        exact ht (Or.inr (Or.inr (Or.inr rfl)))
      · obtain ⟨cs3, t3, fr3, h3, ht3⟩ := hd.dk.types e
        rw [h3] at hg
        cases hg
        exact ht (Tz.of3 ht3)⟩
/-- A law's disk. -/
structure DkZ (Z : Nat) (W : World) (q : Nat) (d : Dk) : Prop where
  out : ∃ L, L.p = q ∧ DkAt W L d ∧ ∀ x, L.own x → Z ≤ x
/-- A law's log. -/
structure LgZ (Z : Nat) (W : World) (p q : Nat) (d : Dk) (wl : Wl) : Prop where
  out : ∃ L, L.p = q ∧ LgM W p L d wl ∧ (∀ x, L.own x → Z ≤ x) ∧ Z ≤ p
theorem LgM.dv {W W' : World} {p : Nat} {L L' : Loc} {d d' : Dk} {wl : Wl} (h : LgM W p L d wl) (k : Dv L W L' W') (hd : DkAt W' L' d') : LgM W' p L' d' wl := by
  obtain ⟨sv, h1, h2⟩ := h.out
  have hz := (Array.getElem?_eq_some_iff.1 h1).1
  refine ⟨hd, ⟨sv, ?_, h2.ky (Kz.ofDv (Z := 0) k h.dk fun _ _ => Nat.zero_le _).ky⟩, k.notown hz h.po⟩
  rw [k.pp, k.same p hz h.po]; exact h1
theorem LgZ.ex {Z : Nat} {W W' : World} {p q : Nat} {d : Dk} {wl : Wl} (h : LgZ Z W p q d wl) (k : Ex W W') : LgZ Z W' p q d wl := by
  obtain ⟨L, h1, h2, h3, h4⟩ := h.out
  exact ⟨L, h1, h2.ex k, h3, h4⟩
theorem DkZ.ex {Z : Nat} {W W' : World} {q : Nat} {d : Dk} (h : DkZ Z W q d) (k : Ex W W') : DkZ Z W' q d := by
  obtain ⟨L, h1, h2, h3⟩ := h.out
  exact ⟨L, h1, h2.ex k, h3⟩
theorem LgZ.dk {Z : Nat} {W : World} {p q : Nat} {d : Dk} {wl : Wl} (h : LgZ Z W p q d wl) : DkZ Z W q d := by
  obtain ⟨L, h1, h2, h3, h4⟩ := h.out
  exact ⟨L, h1, h2.dk, h3⟩
/-- Behind a call that puts. -/
def PostLz (Z : Nat) (W : World) (p q : Nat) (r : Dk × Wl × Int) (e : Ending) (W' : World) : Prop := e = .returned (I r.2.2) ∧ LgZ Z W' p q r.1 r.2.1 ∧ Kz Z W W'
theorem PostLz.of {Z : Nat} {W : World} {p : Nat} {L : Loc} {d : Dk} {wl : Wl} (h : LgM W p L d wl) (ho : ∀ x, L.own x → Z ≤ x) (hp : Z ≤ p) (hZ : Z ≤ W.heap.size) {r : Dk × Wl × Int} {e : Ending} {W' : World} (k : PostLg p L W r e W') : PostLz Z W p L.p r e W' := by
  obtain ⟨L', rfl, k1, k2⟩ := k
  exact ⟨rfl, ⟨L', k2.pp, k1, fun x hx => (k2.own hx).elim (ho x) fun h => by omega, hp⟩, Kz.ofWv k2 h ho hp⟩
section
variable {w0 W : World} (G : Glob w0) (k0 : Ex w0 W) {p q : Nat} {d : Dk} {wl : Wl}
include G k0
theorem app_z (h : LgZ w0.heap.size W p q d wl) (ok : LgOk wl) (v : Value) (b : By) (hs : TyB W v b) (hb : b.length ≤ 1000000) (hops : d.ops + 2000 < 1000000000) (hq : d.qu.length + 2000 < 1000000) :
    Calls Tryd.prog 13 #[PT p, v] W (PostLz w0.heap.size W p q (appD HW d wl b)) := by
  obtain ⟨L, rfl, h2, h3, h4⟩ := h.out
  exact (app_any G k0 h2 ok v b hs hb h3 h4 hops hq).mono fun e W' hh => PostLz.of h2 h3 h4 (ex_size k0) hh
theorem chk_z (h : LgZ w0.heap.size W p q d wl) (ok : LgOk wl) (v : Value) (b : By) (hs : TyB W v b) (hb : b.length ≤ 1000000) (hops : d.ops + 2000 < 1000000000) (hq : d.qu.length + 2000 < 1000000) :
    Calls Tryd.prog 14 #[PT p, v] W (PostLz w0.heap.size W p q (chkD HW d wl b)) := by
  obtain ⟨L, rfl, h2, h3, h4⟩ := h.out
  exact (chk_any G k0 h2 ok v b hs hb h3 h4 hops hq).mono fun e W' hh => PostLz.of h2 h3 h4 (ex_size k0) hh
/-- Behind a call that makes a log. -/
def PostOz (Z : Nat) (W : World) (q : Nat) (r : Dk × Option Wl × Int) (e : Ending) (W' : World) : Prop :=
  ∃ v, e = .returned (.tuple #[v, I r.2.2]) ∧ Kz Z W W' ∧ DkZ Z W' q r.1 ∧ match r.2.1 with
    | none => v = .pointer none
    | some wl => ∃ p, v = PT p ∧ LgZ Z W' p q r.1 wl
omit G k0 in
theorem PostOz.of {Z : Nat} {W : World} {L : Loc} {d : Dk} (h : DkAt W L d) (ho : ∀ x, L.own x → Z ≤ x) (hZ : Z ≤ W.heap.size) {r : Dk × Option Wl × Int} {e : Ending} {W' : World} (k : PostOp W L r e W') : PostOz Z W L.p r e W' := by
  obtain ⟨v, L', rfl, k1, k2, k3⟩ := k
  have ho' : ∀ x, L'.own x → Z ≤ x := fun x hx => (k1.own hx).elim (ho x) fun h => by omega
  refine ⟨v, rfl, Kz.ofDv k1 h ho, ⟨L', k1.pp, k2, ho'⟩, ?_⟩
  obtain ⟨a, b, c⟩ := r
  cases b with
  | none => exact k3
  | some wl =>
    obtain ⟨p, rfl, q1, q2⟩ := k3
    exact ⟨p, rfl, L', k1.pp, q1, ho', by omega⟩
theorem open_z (h : DkZ w0.heap.size W q d) (hops : d.ops + 4000 < 1000000000) (hq : d.qu.length + 2000 < 1000000) :
    Calls Tryd.prog 9 #[PT q] W (PostOz w0.heap.size W q (openD HW d)) := by
  obtain ⟨L, rfl, h2, h3⟩ := h.out
  exact (open_any G k0 h2 h3 hops hq).mono fun e W' hh => PostOz.of h2 h3 (ex_size k0) hh
theorem format_z (h : DkZ w0.heap.size W q d) (n : Int) (hops : d.ops + 4000 < 1000000000) (hq : d.qu.length + 2000 < 1000000) :
    Calls Tryd.prog 8 #[PT q, I n] W (PostOz w0.heap.size W q (formatD HW d n)) := by
  obtain ⟨L, rfl, h2, h3⟩ := h.out
  exact (format_any G k0 h2 n h3 hops hq).mono fun e W' hh => PostOz.of h2 h3 (ex_size k0) hh
end
/-- Behind a call that turns the disk beneath a log. -/
def PostFz (Z : Nat) (W : World) (p q : Nat) (d' : Dk) (wl : Wl) (v : Value) (e : Ending) (W' : World) : Prop := e = .returned v ∧ LgZ Z W' p q d' wl ∧ Kz Z W W'
/-- Behind a call that turns the disk. -/
def PostDz (Z : Nat) (W : World) (q : Nat) (d' : Dk) (v : Value) (e : Ending) (W' : World) : Prop := e = .returned v ∧ DkZ Z W' q d' ∧ Kz Z W W'
theorem PostFz.of {Z : Nat} {W : World} {p : Nat} {L : Loc} {d d' : Dk} {wl : Wl} {v : Value} (h : LgM W p L d wl) (ho : ∀ x, L.own x → Z ≤ x) (hp : Z ≤ p) (hZ : Z ≤ W.heap.size) {e : Ending} {W' : World} (k : PostD W L d' v e W') : PostFz Z W p L.p d' wl v e W' := by
  obtain ⟨L', rfl, k1, k2⟩ := k
  exact ⟨rfl, ⟨L', k2.pp, h.dv k2 k1, fun x hx => (k2.own hx).elim (ho x) fun h => by omega, hp⟩, Kz.ofDv k2 h.dk ho⟩
theorem PostDz.of {Z : Nat} {W : World} {L : Loc} {d d' : Dk} {v : Value} (h : DkAt W L d) (ho : ∀ x, L.own x → Z ≤ x) (hZ : Z ≤ W.heap.size) {e : Ending} {W' : World} (k : PostD W L d' v e W') : PostDz Z W L.p d' v e W' := by
  obtain ⟨L', rfl, k1, k2⟩ := k
  exact ⟨rfl, ⟨L', k2.pp, k1, fun x hx => (k2.own hx).elim (ho x) fun h => by omega⟩, Kz.ofDv k2 h ho⟩
section
variable {Z : Nat} {W : World} {p q : Nat} {d : Dk} {wl : Wl}
theorem fail_l (h : LgZ Z W p q d wl) (hZ : Z ≤ W.heap.size) (n : Int) (hn : n < 9223372036854775808) : Calls Tryd.prog 27 #[PT q, I n] W (PostFz Z W p q (failD d n).1 wl (I (failD d n).2)) := by
  obtain ⟨L, rfl, h2, h3, h4⟩ := h.out
  exact (fail_any h2.dk n hn).mono fun e W' hh => PostFz.of h2 h3 h4 hZ hh
theorem arm_l (h : LgZ Z W p q d wl) (hZ : Z ≤ W.heap.size) (n : Int) (hn : n < 9223372036854775808) : Calls Tryd.prog 30 #[PT q, I n] W (PostFz Z W p q (armD d n).1 wl (I (armD d n).2)) := by
  obtain ⟨L, rfl, h2, h3, h4⟩ := h.out
  exact (arm_any h2.dk n hn).mono fun e W' hh => PostFz.of h2 h3 h4 hZ hh
theorem arm_z (h : DkZ Z W q d) (hZ : Z ≤ W.heap.size) (n : Int) (hn : n < 9223372036854775808) : Calls Tryd.prog 30 #[PT q, I n] W (PostDz Z W q (armD d n).1 (I (armD d n).2)) := by
  obtain ⟨L, rfl, h2, h3⟩ := h.out
  exact (arm_any h2 n hn).mono fun e W' hh => PostDz.of h2 h3 hZ hh
theorem crash_z (h : DkZ Z W q d) (hZ : Z ≤ W.heap.size) (kv : Value) (keep : List Bool) (hs : SlV1 KBo 1 W kv keep) (hb : ∀ g, kv.ownBlock = some g → ∃ cs fr, W.heap[g]? = some (.cells cs 4 fr)) : Calls Tryd.prog 29 #[PT q, kv] W (PostDz Z W q (crashD d keep) (I 0)) := by
  obtain ⟨L, rfl, h2, h3⟩ := h.out
  refine (crash_any h2 kv keep hs fun g hg => ?_).mono fun e W' hh => PostDz.of h2 h3 hZ hh
  obtain ⟨cs, fr, hc⟩ := hb g hg
  refine ⟨fun e => ?_, (Array.getElem?_eq_some_iff.1 hc).1⟩
  obtain ⟨cs3, t3, fr3, g3, ht3⟩ := h2.types e
  rw [hc] at g3
  cases g3
  rcases ht3 with e | e | e <;> exact absurd e (by decide)
end
theorem new_z {w0 W : World} (k0 : Ex w0 W) (n : Nat) (h1 : 1 ≤ n) (h2 : n ≤ 2048) : Calls Tryd.prog 32 #[I n] W fun e w' => ∃ q, e = .returned (.tuple #[PT q, I 0]) ∧ DkZ w0.heap.size w' q (newD n) ∧ Ex W w' := by
  refine (new_any n h1 h2 W).mono fun e w' hh => ?_
  obtain ⟨L, rfl, k1, k2, k3⟩ := hh
  exact ⟨L.p, rfl, ⟨L, rfl, k1, fun b hb => Nat.le_trans (ex_size k0) (k3 b hb)⟩, k2⟩
section
variable {Z : Nat} {W : World} {p q : Nat} {d : Dk} {wl : Wl} (h : LgZ Z W p q d wl)
include h
theorem disk_z : Calls Tryd.prog 20 #[PT p] W (Post W (PT q)) := by
  obtain ⟨L, rfl, h2, h3, h4⟩ := h.out
  exact disk_w h2
theorem turn_z : Calls Tryd.prog 18 #[PT p] W (Post W (U4 wl.c.turn)) := by
  obtain ⟨L, rfl, h2, h3, h4⟩ := h.out
  exact turn_w h2
theorem broken_z : Calls Tryd.prog 19 #[PT p] W (Post W (.bool wl.br)) := by
  obtain ⟨L, rfl, h2, h3, h4⟩ := h.out
  exact broken_w h2
theorem left_z (ok : LgOk wl) : Calls Tryd.prog 17 #[PT p] W (Post W (I ((wl.c.n : Int) - wl.c.used))) := by
  obtain ⟨L, rfl, h2, h3, h4⟩ := h.out
  exact left_w h2 ok.un ok.n
theorem len_z : Calls Tryd.prog 16 #[PT p] W (Post W (I ((wl.sh.length : Int) - 1))) := by
  obtain ⟨L, rfl, h2, h3, h4⟩ := h.out
  exact len_w h2
theorem snap_z (h0 : 0 < wl.sh.length) (hb : (wl.sh.getD 0 []).length ≤ 50000) : Calls Tryd.prog 15 #[PT p] W (PostTb W (wl.sh.getD 0 [])) := by
  obtain ⟨L, rfl, h2, h3, h4⟩ := h.out
  exact snap_w h2 h0 hb
theorem rest_z (h0 : 0 < wl.sh.length) (hb : ∀ b ∈ wl.sh.tail, b.length ≤ 50000) (hn : wl.sh.length ≤ 1000) : Calls Tryd.prog 12 #[PT p] W (PostRt W wl.sh.tail) := by
  obtain ⟨L, rfl, h2, h3, h4⟩ := h.out
  exact rest_of _ _ (fun w' k => allw_any h2 k h0) hb (by rw [List.length_tail]; omega)
end
end Go.Proofs.YtabjamkkhlbajaaDoor

/- The log: what a log tells. -/
set_option linter.unusedSimpArgs false
set_option linter.unusedVariables false
set_option maxRecDepth 20000
namespace Go.Proofs.YtabjamkkhlbajaaDoor
open Go.RowKit
attribute [local go_sem] Oper.semAt_some
theorem heap_alloc_at {w : World} {o : Obj} {n : Nat} (h : n = w.heap.size) : (w.alloc o).heap[n]? = some o := by rw [h]; exact heap_alloc_new w o
theorem wpConsSh {ops : Array Oper} {rest : List Oper} {o : Oper} {a : Act} {w : World} {Q : Exit → Act → World → Prop} (s x : Operand) (hgd : o.guard = none)
    (ho : o.op = .call { callee := .builtin .append, args := #[s, x], argTypes := #[30, 30] })
    {g : Nat} {u : Value} {b : By} {fr : Nat × Nat} (hs : a.eval s = .slice (some ⟨g, 0, none⟩) 1 1) (hc : w.heap[g]? = some (.cells #[u] 22 fr)) (hu : TyB w u b)
    {vx : Value} {ls : List By} (hx : a.eval x = vx) (ht : SlSh w vx ls) (hn : ls.length ≤ 100000)
    (h : ∀ v' w', SlSh w' v' (b :: ls) → Ex w w' → wpList Tryd.prog ops Q rest (a.put o.dst v') w') : wpList Tryd.prog ops Q (o :: rest) a w := by
  obtain ⟨i, hi, h1', h2', h3'⟩ := info_parts appSh.hi
  have hcell : w.cell? ⟨g, 0, none⟩ = some u := by rw [cell_of_row w g 0 _ _ _ hc]; rfl
  rcases Nat.eq_zero_or_pos ls.length with h0 | h0
  · obtain rfl := List.eq_nil_of_length_eq_zero h0
    obtain ⟨ax, c, rfl, _, _, hno, _⟩ := ht.out
    have hsrc : Src Tryd.prog i.size 30 (.slice ax 0 c) 0 [] w := by
      cases ax with
      | none => exact Src.ofNil w (Tryd.underlying30) c
      | some ad => exact Src.ofSlice w (Tryd.underlying30) ad 0 c [] (by simp) (fun j u hj => by simp at hj) (fun u hu => by simp at hu)
    refine wpList_plain hgd fun K hK' => ?_
    have hrun := run_append_nothing (P := Tryd.prog) w 30 30 o.type 22 i (Tryd.underlying30) hi (some ⟨g, 0, none⟩) 1 1 (Nat.le_refl _) _ hsrc
    unfold Oper.wp
    simp only [List.length_nil] at hx
    simp [execOp, ho, resolve, invoke, builtin, hs, hx, hrun, Result.andThen]
    refine hK' _ _ (h _ _ ⟨_, 1, rfl, Nat.le_refl _, by decide, (fun e => by cases e), Or.inr ⟨g, 0, _, _, rfl, hc, fun j l hj => ?_⟩⟩ (ex_refl _))
    cases j with
    | zero => simp at hj; subst hj; exact ⟨u, rfl, hu⟩
    | succ j => simp at hj
  · obtain ⟨ax, c, rfl, h1, h2, hno, h4⟩ := ht.out
    rcases h4 with rfl | ⟨gx, off, cs, frx, rfl, hb, hcc⟩
    · simp at h0
    obtain ⟨news, q1, q2, q3⟩ := ht.olds (Nat.le_refl _)
    rw [List.take_length] at q3
    have hone : ∀ x ∈ news, x.oneCell' = true := fun x hx => by
      obtain ⟨j, hj⟩ := List.mem_iff_getElem?.1 hx
      have hjl : j < ls.length := by rw [← q1]; exact (List.getElem?_eq_some_iff.1 hj).1
      obtain ⟨y, e1, e2⟩ := q3 j _ (List.getElem?_eq_getElem hjl)
      rw [hj] at e1
      obtain rfl := Option.some.inj e1
      obtain ⟨ua, uc, rfl, _⟩ := e2.out
      rfl
    refine wpList_append_grows w hgd s x _ ho _ i _ _ _ appSh.ht hi h1' h2' h3' appSh.hzs appSh.hsz (some ⟨g, 0, none⟩) 1 1 [u] hs (fun e => by cases e) rfl (fun b' eb j x hj => ?_) ⟨gx, off, none⟩ ls.length c news hx (by rw [q1]; omega) q2 hone (by omega) (by unfold maxLen; omega) (by omega) fun v' w' k1 k2 => ?_
    · cases eb
      cases j with
      | zero => simp at hj; subst hj; exact hcell
      | succ j => simp at hj
    · have kx : Ex w w' := ex_of_below ⟨k2.os, k2.tape, k2.output, k2.size, fun b hb => k2.block b hb (fun e => by cases e)⟩
      refine h v' w' (slsh_own k1 (by rw [List.length_cons, Nat.add_comm]) fun j l hj => ?_) kx
      cases j with
      | zero => simp at hj; subst hj; exact ⟨u, rfl, hu.ky (Ky.ex kx)⟩
      | succ j =>
        rw [List.getElem?_cons_succ] at hj
        obtain ⟨y, e1, e2⟩ := q3 j l hj
        exact ⟨y, by simpa using e1, e2.ky (Ky.ex kx)⟩
/-- Behind told. -/
def PostSh (W : World) (ls : List By) (e : Ending) (w' : World) : Prop := ∃ v, e = .returned v ∧ SlSh w' v ls ∧ Ex W w'
def PostTo (W : World) (ls : List By) (e : Ending) (w' : World) : Prop := ∃ v, e = .returned (.tuple #[v, .bool true]) ∧ SlSh w' v ls ∧ Ex W w'
set_option maxRecDepth 100000 in
theorem told_z {Z : Nat} {W : World} {p q : Nat} {d : Dk} {wl : Wl} (h : LgZ Z W p q d wl) (h0 : 0 < wl.sh.length) (hn : wl.sh.length ≤ 1000) (hb : ∀ b ∈ wl.sh, b.length ≤ 50000) :
    Calls Tryd.prog 25 #[PT p] W (PostTo W wl.sh) := by
  obtain ⟨s, ls, hls⟩ : ∃ s ls, wl.sh = s :: ls := by
    cases e : wl.sh with
    | nil => rw [e] at h0; simp at h0
    | cons s ls => exact ⟨s, ls, rfl⟩
  have HRe := Lib.hid (fun W' (k : Ex W W') => rest_z (h.ex k) h0 (fun b hx => hb b (List.mem_of_mem_tail hx)) hn)
  have HSn := Lib.hid (fun W' (k : Ex W W') => snap_z (h.ex k) h0 (by rw [hls]; exact hb s (by rw [hls]; simp)))
  have HLe := Lib.hid (fun W' (k : Ex W W') => len_z (h.ex k))
  rw [hls] at HRe HSn HLe hn ⊢
  simp only [List.tail_cons, List.getD_cons_zero, List.length_cons] at HRe HSn HLe hn
  clear h h0 hb hls
  obtain ⟨n, hnn⟩ : ∃ n, ls.length = n := ⟨_, rfl⟩
  have e1 : ((n + 1 : Nat) : Int) - 1 = (n : Int) := by omega
  rw [hnn, e1] at HLe
  go_enter Tryd.func25, Tryd.ntmps25
  go_wp2_with (first | (go_at_call 12; (with_reducible refine (HRe.out _ (by (try show Ex _ _); with_reducible repeat (first | exact ex_refl _ | assumption | refine ex_drewL ?_ | refine ex_appR ?_ _ | refine ex_wx ?_ _ | refine ex_drew ?_ | refine ex_alloc ?_ _))).mono ?_); rintro e w2 ⟨u, rfl, hO, X2, rfl⟩; obtain ⟨ua, uc, rfl, _⟩ := hO.form; rw [hnn] at hO; replace hO := Lib.hid hO) | (go_at_call 15; (with_reducible refine (HSn.out _ (by (try show Ex _ _); with_reducible repeat (first | exact ex_refl _ | assumption | refine ex_drewL ?_ | refine ex_appR ?_ _ | refine ex_wx ?_ _ | refine ex_drew ?_ | refine ex_alloc ?_ _))).mono ?_); rintro e w3 ⟨u3, rfl, hT3, X3, rfl⟩; rw [wx_wx] at hT3; obtain ⟨ta, tc, rfl, _⟩ := hT3.out; replace hT3 := Lib.hid hT3) | (go_at_call 16; (with_reducible refine (HLe.out _ (by (try show Ex _ _); with_reducible repeat (first | exact ex_refl _ | assumption | refine ex_drewL ?_ | refine ex_appR ?_ _ | refine ex_wx ?_ _ | refine ex_drew ?_ | refine ex_alloc ?_ _))).mono ?_); rintro e w5 ⟨rfl, X5, rfl⟩) | (at_builtin; refine wpConsSh _ _ rfl rfl rfl (heap_alloc_at (by simp [go_sem])) (hT3.out.ky (Ky.ex (by (try show Ex _ _); with_reducible repeat (first | exact ex_refl _ | assumption | refine ex_drewL ?_ | refine ex_appR ?_ _ | refine ex_wx ?_ _ | refine ex_drew ?_ | refine ex_alloc ?_ _)))) rfl (hO.out.sh.ky (Ky.ex (by (try show Ex _ _); with_reducible repeat (first | exact ex_refl _ | assumption | refine ex_drewL ?_ | refine ex_appR ?_ _ | refine ex_wx ?_ _ | refine ex_drew ?_ | refine ex_alloc ?_ _)))) (by omega) ?_; intro v4 w4 hS4 hX4; obtain ⟨X4, rfl⟩ := hX4; obtain ⟨a4, c4, rfl, _⟩ := hS4.out; simp only [List.length_cons, hnn] at hS4; replace hS4 := Lib.hid hS4))
  go_ret2
  exact ⟨_, rfl, hS4.out.ky (Ky.ex (by (try show Ex _ _); with_reducible repeat (first | exact ex_refl _ | assumption | refine ex_drewL ?_ | refine ex_appR ?_ _ | refine ex_wx ?_ _ | refine ex_drew ?_ | refine ex_alloc ?_ _))), (by (try show Ex _ _); with_reducible repeat (first | exact ex_refl _ | assumption | refine ex_drewL ?_ | refine ex_appR ?_ _ | refine ex_wx ?_ _ | refine ex_drew ?_ | refine ex_alloc ?_ _))⟩
end Go.Proofs.YtabjamkkhlbajaaDoor

/- The log: the same rows of bytes? -/
set_option linter.unusedSimpArgs false
set_option linter.unusedVariables false
set_option maxRecDepth 20000
namespace Go.Proofs.YtabjamkkhlbajaaDoor
open Go.RowKit
attribute [local go_sem] Oper.semAt_some
theorem conv_slt {w : World} {v : Value} {l : List UInt8} (h : SlT w v l) : (convert 22 9 v).run Tryd.prog w = .ok (.string ⟨l.toArray⟩) w := by
  obtain ⟨a, c, rfl, h1, h2, h3, h4⟩ := h.out
  cases a with
  | none =>
    obtain rfl := h3 rfl
    obtain rfl : l = [] := List.eq_nil_of_length_eq_zero (by omega)
    rw [List.length_nil, Lib.run_convert_nil_bytes w _ _ _ 0 Tryd.underlying22 Tryd.underlying5 Tryd.underlying9]
  | some ad =>
    refine run_convert_bytes_back w _ _ _ ad c l Tryd.underlying22 Tryd.underlying5 Tryd.underlying9 fun j hj => ?_
    exact sll_news h4 (ex_refl _) j _ (by simp [Lib.byteCells, List.getElem?_eq_getElem hj])
theorem bytesEqual_any (l m : List UInt8) (v u : Value) (w : World) (hs : SlT w v l) (ht : SlT w u m) :
    Calls Tryd.prog 48 #[v, u] w (Post w (.bool (decide (l = m)))) := by
  have c1 := conv_slt hs
  have c2 := conv_slt ht
  have e1 : (l == m) = decide (l = m) := by rw [Bool.eq_iff_iff, beq_iff_eq, decide_eq_true_eq]
  rw [← e1]
  clear hs ht e1
  go_enter Tryd.func48, Tryd.ntmps48
  go_wp2
  go_ret
  exact post_mk rfl (by (try show Ex _ _); with_reducible repeat (first | exact ex_refl _ | assumption | refine ex_drewL ?_ | refine ex_appR ?_ _ | refine ex_wx ?_ _ | refine ex_drew ?_ | refine ex_alloc ?_ _))
set_option maxHeartbeats 400000 in
theorem same_z (l m : List By) (v u : Value) (w : World) (hs : SlSh w v l) (ht : SlSh w u m) (hl : l.length ≤ 1000000) (hm : m.length ≤ 1000000) :
    Calls Tryd.prog 26 #[v, u] w (Post w (.bool (decide (l = m)))) := by
  obtain ⟨a, c, rfl, h1, h2, _⟩ := hs.out
  obtain ⟨b, e, rfl, k1, k2, _⟩ := ht.out
  unfold maxLen at h2 k2
  have HS := Lib.hid hs
  have HT := Lib.hid ht
  clear hs ht
  by_cases hlm : l.length = m.length
  · obtain ⟨n, hn⟩ : ∃ n, l.length = n := ⟨_, rfl⟩
    have hn2 : m.length = n := by omega
    have Hn := Lib.hid hn
    have Hn2 := Lib.hid hn2
    rw [hn] at h1 hl ⊢
    rw [hn2] at k1 hm ⊢
    rw [hn] at HS
    rw [hn2] at HT
    clear hn hn2 hlm
    obtain ⟨r, hr⟩ : ∃ r, decide (l = m) = r := ⟨_, rfl⟩
    have Hr := Lib.hid hr
    rw [hr]
    clear hr
    go_enter Tryd.func26, Tryd.ntmps26
    go_wp2
    go_loopw [5, 13] (fun _ i W => ∃ k : Nat, k ≤ n ∧ i = I k ∧ Hid (∀ (j : Nat), j < k → l[j]? = m[j]?) ∧ Ex w W) (fun _ i _ => n - (intOf i).toNat)
    case atStart => exact ⟨0, by omega, rfl, Lib.hid fun j hj => by omega, (by (try show Ex _ _); with_reducible repeat (first | exact ex_refl _ | assumption | refine ex_drewL ?_ | refine ex_appR ?_ _ | refine ex_wx ?_ _ | refine ex_drew ?_ | refine ex_alloc ?_ _))⟩
    case round =>
      obtain ⟨k, hk, rfl, HE, hw⟩ := hrel
      by_cases hlt : k < n
      · obtain ⟨g, off, rfl, hg, x, hx, hX⟩ := (HS.out.ky (Ky.ex hw)).at (j := k) (by rw [Hn.out]; exact hlt)
        obtain ⟨g', off', rfl, hg', y, hy, hY⟩ := (HT.out.ky (Ky.ex hw)).at (j := k) (by rw [Hn2.out]; exact hlt)
        have hkn : (k : Int) < n := by omega
        have hxl : l[k]? = some (l.getD k []) := by rw [List.getD_eq_getElem?_getD, List.getElem?_eq_getElem (by rw [Hn.out]; exact hlt)]; rfl
        have hyl : m[k]? = some (m.getD k []) := by rw [List.getD_eq_getElem?_getD, List.getElem?_eq_getElem (by rw [Hn2.out]; exact hlt)]; rfl
        obtain ⟨xa, xc, rfl, _⟩ := hX.out
        obtain ⟨ya, yc, rfl, _⟩ := hY.out
        have HB := Lib.hid (fun W' (q : Ex wr W') => bytesEqual_any _ _ _ _ W' (hX.ky (Ky.ex q)).slt (hY.ky (Ky.ex q)).slt)
        obtain ⟨t, ht⟩ : ∃ t, decide (l.getD k [] = m.getD k []) = t := ⟨_, rfl⟩
        rw [ht] at HB
        have Ht := Lib.hid ht
        have Hxl := Lib.hid hxl
        have Hyl := Lib.hid hyl
        generalize (l.getD k []).length = nx at *
        generalize (m.getD k []).length = ny at *
        clear ht hxl hyl hX hY
        cases t
        · have hr2 : r = false := by
            rw [← Hr.out]
            exact decide_eq_false fun e => by
              have := of_decide_eq_false Ht.out
              rw [e] at this
              exact this rfl
          subst hr2
          go_wp2
          refine wp_region_seqA (wr) [(0, true), (1, true), (2, true), (3, true), (4, true), (5, true), (6, true), (7, true), (8, false), (9, true)] (by (try show Ex _ _); with_reducible repeat (first | exact ex_refl _ | assumption | refine ex_drewL ?_ | refine ex_appR ?_ _ | refine ex_wx ?_ _ | refine ex_drew ?_ | refine ex_alloc ?_ _)) (by kernel_rfl) (by kernel_rfl) (fun _ _ d _ _ h => by cases d <;> exact h) ?_
          simp only [List.map_cons, List.map_nil, nth]
          repeat (first | ((with_reducible refine wpSeq_look ?_); go_big_quiet_step (fail); (with_reducible refine wpQuiet_nil ?_)) | ((with_reducible refine wpSeq_effF ?_ ?_); (focus rfl); go_simp) | ((with_reducible refine wpSeq_eff ?_ ?_); (focus rfl); (try dsimp only); go_wp2_with ((go_at_call 48; (with_reducible refine (HB.out _ (by (try show Ex _ _); with_reducible repeat (first | exact ex_refl _ | assumption | refine ex_drewL ?_ | refine ex_appR ?_ _ | refine ex_wx ?_ _ | refine ex_drew ?_ | refine ex_alloc ?_ _))).mono ?_); rintro e w2 ⟨rfl, X2, rfl⟩)); refine mixQ_mk (by (try show Ex _ _); with_reducible repeat (first | exact ex_refl _ | assumption | refine ex_drewL ?_ | refine ex_appR ?_ _ | refine ex_wx ?_ _ | refine ex_drew ?_ | refine ex_alloc ?_ _)) ?_))
          refine wpSeq_nil ?_
          go_wp2
          go_ret
          exact post_mk' rfl (by (try show Ex _ _); with_reducible repeat (first | exact ex_refl _ | assumption | refine ex_drewL ?_ | refine ex_appR ?_ _ | refine ex_wx ?_ _ | refine ex_drew ?_ | refine ex_alloc ?_ _))
        · have HE2 : Hid (∀ (j : Nat), j < k + 1 → l[j]? = m[j]?) := Lib.hid fun j hj => by
            by_cases hjk : j < k
            · exact HE.out j hjk
            · obtain rfl : j = k := by omega
              rw [Hxl.out, Hyl.out, of_decide_eq_true Ht.out]
          go_wp2
          refine wp_region_seqA (wr) [(0, true), (1, true), (2, true), (3, true), (4, true), (5, true), (6, true), (7, true), (8, false), (9, true)] (by (try show Ex _ _); with_reducible repeat (first | exact ex_refl _ | assumption | refine ex_drewL ?_ | refine ex_appR ?_ _ | refine ex_wx ?_ _ | refine ex_drew ?_ | refine ex_alloc ?_ _)) (by kernel_rfl) (by kernel_rfl) (fun _ _ d _ _ h => by cases d <;> exact h) ?_
          simp only [List.map_cons, List.map_nil, nth]
          repeat (first | ((with_reducible refine wpSeq_look ?_); go_big_quiet_step (fail); (with_reducible refine wpQuiet_nil ?_)) | ((with_reducible refine wpSeq_effF ?_ ?_); (focus rfl); go_simp) | ((with_reducible refine wpSeq_eff ?_ ?_); (focus rfl); (try dsimp only); go_wp2_with ((go_at_call 48; (with_reducible refine (HB.out _ (by (try show Ex _ _); with_reducible repeat (first | exact ex_refl _ | assumption | refine ex_drewL ?_ | refine ex_appR ?_ _ | refine ex_wx ?_ _ | refine ex_drew ?_ | refine ex_alloc ?_ _))).mono ?_); rintro e w2 ⟨rfl, X2, rfl⟩)); refine mixQ_mk (by (try show Ex _ _); with_reducible repeat (first | exact ex_refl _ | assumption | refine ex_drewL ?_ | refine ex_appR ?_ _ | refine ex_wx ?_ _ | refine ex_drew ?_ | refine ex_alloc ?_ _)) ?_))
          refine wpSeq_nil ?_
          go_wp2
          exact ⟨⟨k + 1, by omega, by go_num, HE2, (by (try show Ex _ _); with_reducible repeat (first | exact ex_refl _ | assumption | refine ex_drewL ?_ | refine ex_appR ?_ _ | refine ex_wx ?_ _ | refine ex_drew ?_ | refine ex_alloc ?_ _))⟩, by simp [intOf]; omega⟩
      · obtain rfl : k = n := by omega
        have hr2 : r = true := by
          rw [← Hr.out]
          exact decide_eq_true (list_eqW Hn.out Hn2.out HE.out)
        subst hr2
        go_wp2
        go_ret
        exact post_mk' rfl (by (try show Ex _ _); with_reducible repeat (first | exact ex_refl _ | assumption | refine ex_drewL ?_ | refine ex_appR ?_ _ | refine ex_wx ?_ _ | refine ex_drew ?_ | refine ex_alloc ?_ _))
  · have hne : decide (l = m) = false := decide_eq_false fun e => hlm (by rw [e])
    rw [hne]
    have h7 : ¬ ((l.length : Nat) : Int) = (m.length : Nat) := by omega
    obtain ⟨n, hn⟩ : ∃ n, l.length = n := ⟨_, rfl⟩
    obtain ⟨n2, hn2⟩ : ∃ n, m.length = n := ⟨_, rfl⟩
    rw [hn, hn2] at h7
    rw [hn] at hl ⊢
    rw [hn2] at hm ⊢
    clear HS HT hne hn hn2
    go_enter Tryd.func26, Tryd.ntmps26
    go_wp2
    go_ret
    exact post_mk' rfl (by (try show Ex _ _); with_reducible repeat (first | exact ex_refl _ | assumption | refine ex_drewL ?_ | refine ex_appR ?_ _ | refine ex_wx ?_ _ | refine ex_drew ?_ | refine ex_alloc ?_ _))
end Go.Proofs.YtabjamkkhlbajaaDoor

/- The log: steps of the laws. -/
set_option linter.unusedSimpArgs false
set_option linter.unusedVariables false
set_option maxRecDepth 20000
namespace Go.Proofs.YtabjamkkhlbajaaDoor
open Go.RowKit
theorem SlT.take {w : World} {a : Option Addr} {n c : Nat} {l : List UInt8} (h : SlT w (.slice a n c) l) (k : Nat) (hk : k ≤ l.length) : SlT w (.slice a k c) (l.take k) := by
  obtain ⟨a', c', hv, h1, h2, h3, h4⟩ := h.out
  obtain ⟨rfl, rfl, rfl⟩ : a = a' ∧ n = l.length ∧ c = c' := by simpa using hv
  refine ⟨a, c, by rw [List.length_take, Nat.min_eq_left hk], by rw [List.length_take]; omega, h2, h3, ?_⟩
  unfold SlL at h4 ⊢
  rw [List.length_take, Nat.min_eq_left hk]
  rcases h4.out with h0 | ⟨g, off, h5, h6, h7⟩
  · obtain rfl : k = 0 := by omega
    exact SlB.zero _ _ _
  · subst h5
    refine SlB.mk' h6 fun j hj => ?_
    rw [h7 j (by omega)]
    unfold gF
    rw [List.getD_eq_getElem?_getD, List.getD_eq_getElem?_getD, List.getElem?_take, if_pos hj]
theorem SlV1.take {α : Type} {K : α → List Value} {s : Nat} {w : World} {a : Option Addr} {n c : Nat} {l : List α} (h : SlV1 K s w (.slice a n c) l) {k : Nat} (hk : k ≤ n) : SlV1 K s w (.slice a k c) (l.take k) ∧ (l.take k).length = k := by
  obtain ⟨a', c', e, h1, h2, h3, h4⟩ := h.out
  obtain ⟨rfl, rfl, rfl⟩ : a = a' ∧ n = l.length ∧ c = c' := by simpa using e
  have hl : (l.take k).length = k := by rw [List.length_take]; omega
  exact ⟨⟨a, c, by rw [hl], by omega, h2, h3, h4.take k⟩, hl⟩
theorem appBo : AppT Tryd.prog 43 4 1 1 (.bool false) := ⟨Tryd.underlying43, by kernel_rfl, rfl, by decide⟩
theorem KBo_one (l : List Bool) : ∀ u ∈ l.flatMap KBo, u.oneCell' = true := by
  intro u hu
  obtain ⟨b, _, hb⟩ := List.mem_flatMap.1 hu
  rw [show KBo b = [.bool b] from rfl] at hb
  rw [List.mem_singleton.1 hb]
  rfl
def OwnBo (w : World) (Z : Nat) (v : Value) (l : List Bool) : Prop := w.ownsRow Z 4 1 v l.length (l.flatMap KBo)
theorem ownbo_read {w : World} {Z : Nat} {v : Value} {l : List Bool} (h : OwnBo w Z v l) : SlV1 KBo 1 w v l := SlV1.of_own KBo_len (by omega) h
theorem own_emptyBo {w w' : World} {g : Nat} (k : Ex (w.alloc (.cells #[] 4)) w') (hg : g = w.heap.size) : w'.ownsRow w.heap.size 4 1 (.slice (some ⟨g, 0, none⟩) 0 0) 0 (([] : List Bool).flatMap KBo) := by
  subst hg
  exact owns_ex (owns_new (n := 0) (cap := 0) rfl (Nat.le_refl _) (by omega) (by decide) (by simp) (by simp)) k
set_option maxHeartbeats 1000000 in
theorem cloneBo_any (l : List Bool) (v : Value) (w : World) (hs : SlV1 KBo 1 w v l) (hl : l.length ≤ 1000000) :
    Calls Tryd.prog 54 #[v] w fun e w' => ∃ v', e = .returned v' ∧ OwnBo w' w.heap.size v' l ∧ Ex w w' := by
  obtain ⟨a, c, rfl, h1, h2, h3, h4⟩ := id hs.out
  have HS := Lib.hid h4
  unfold OwnBo
  clear hs h4
  cases a with
  | none =>
    obtain rfl := h3 rfl
    obtain rfl : l = [] := List.eq_nil_of_length_eq_zero (by omega)
    rw [List.length_nil]
    go_enter Tryd.func54, Tryd.ntmps54
    go_wp2
    go_ret
    exact ⟨_, rfl, owns_nil _ _ _ _, (by (try show Ex _ _); with_reducible repeat (first | exact ex_refl _ | assumption | refine ex_drewL ?_ | refine ex_appR ?_ _ | refine ex_wx ?_ _ | refine ex_drew ?_ | refine ex_alloc ?_ _))⟩
  | some ad =>
    clear h3
    have hl1 : 0 + l.length ≤ maxLen := by unfold maxLen; omega
    have hl2 : (0 + l.length) * 1 ≤ 140737488355328 := by omega
    have hne : ∀ u ∈ l.flatMap KBo, u.oneCell' = true := KBo_one l
    have hfl : (l.flatMap KBo).length = l.length * 1 := flat_len KBo_len l
    go_enter Tryd.func54, Tryd.ntmps54
    go_wp2_with (at_builtin; refine wpApd (v := .slice (some ⟨w.heap.size, 0, none⟩) 0 0) (n := 0) (xs := ([] : List Bool).flatMap KBo) (B := w.heap.size) appBo _ _ rfl rfl (own_emptyBo (by (try show Ex _ _); with_reducible repeat (first | exact ex_refl _ | assumption | refine ex_drewL ?_ | refine ex_appR ?_ _ | refine ex_wx ?_ _ | refine ex_drew ?_ | refine ex_alloc ?_ _)) rfl) rfl ad l.length c (l.flatMap KBo) rfl hfl (SlR.news KBo_len (by omega) (HS.out.ex (by (try show Ex _ _); with_reducible repeat (first | exact ex_refl _ | assumption | refine ex_drewL ?_ | refine ex_appR ?_ _ | refine ex_wx ?_ _ | refine ex_drew ?_ | refine ex_alloc ?_ _)))) hne hl1 hl2 (ex_size (by (try show Ex _ _); with_reducible repeat (first | exact ex_refl _ | assumption | refine ex_drewL ?_ | refine ex_appR ?_ _ | refine ex_wx ?_ _ | refine ex_drew ?_ | refine ex_alloc ?_ _))) (fun v1 w1 hown hA => ?_))
    go_ret
    rw [Nat.zero_add] at hown
    refine ⟨v1, rfl, by simpa using hown, ex_of_below ((ex_below (by (try show Ex _ _); with_reducible repeat (first | exact ex_refl _ | assumption | refine ex_drewL ?_ | refine ex_appR ?_ _ | refine ex_wx ?_ _ | refine ex_drew ?_ | refine ex_alloc ?_ _))).trans (hA.below (ex_size (by (try show Ex _ _); with_reducible repeat (first | exact ex_refl _ | assumption | refine ex_drewL ?_ | refine ex_appR ?_ _ | refine ex_wx ?_ _ | refine ex_drew ?_ | refine ex_alloc ?_ _))) fun g hg => ?_))⟩
    obtain rfl : w.heap.size = g := Option.some.inj hg
    exact Nat.le_refl _
attribute [local go_sem] Oper.semAt_some
/-- A step, as a value. -/
def StR (kd n : Int) (dv kv : Value) : Array Value := #[I kd, I n, dv, kv]
set_option maxHeartbeats 400000 in
theorem data_any {w : World} (kd n : Int) {dv kv : Value} {l : By} (hs : SlT w dv l) (hk : kv.oneCell' = true) : Calls Tryd.prog 22 #[.agg (StR kd n dv kv)] w (PostTb w (l.take 500)) := by
  obtain ⟨a, c, rfl, h1, h2, _⟩ := hs.out
  unfold StR
  have hk1 : (min (l.length : Int) 500).toNat ≤ l.length := by omega
  have HC := Lib.hid (fun W (q : Ex w W) => cloneT_any ((hs.ex q).take _ hk1) (by rw [List.length_take]; omega))
  have hL : l.take (min (l.length : Int) 500).toNat = l.take 500 := by
    by_cases h5 : l.length ≤ 500
    · rw [List.take_of_length_le h5, List.take_of_length_le (by omega)]
    · rw [show (min (l.length : Int) 500).toNat = 500 by omega]
  rw [hL] at HC
  unfold maxLen at h2
  obtain ⟨m, hm⟩ : ∃ m, l.length = m := ⟨_, rfl⟩
  rw [hm] at HC h1 ⊢
  clear hs hm hk1 hL
  go_enter Tryd.func22, Tryd.ntmps22
  go_wp2_with (go_at_call 47; (with_reducible refine (HC.out _ (by (try show Ex _ _); with_reducible repeat (first | exact ex_refl _ | assumption | refine ex_drewL ?_ | refine ex_appR ?_ _ | refine ex_wx ?_ _ | refine ex_drew ?_ | refine ex_alloc ?_ _))).mono ?_); rintro e w3 ⟨u, rfl, hT, X, rfl⟩)
  go_ret
  exact ⟨_, rfl, hT, (by (try show Ex _ _); with_reducible repeat (first | exact ex_refl _ | assumption | refine ex_drewL ?_ | refine ex_appR ?_ _ | refine ex_wx ?_ _ | refine ex_drew ?_ | refine ex_alloc ?_ _))⟩
set_option maxHeartbeats 400000 in
theorem keep_a {w : World} (kd n : Int) {dv kv : Value} {l : List Bool} (hs : SlV1 KBo 1 w kv l) (hk : dv.oneCell' = true) : Calls Tryd.prog 31 #[.agg (StR kd n dv kv)] w fun e w' => ∃ v', e = .returned v' ∧ OwnBo w' w.heap.size v' (l.take 40) ∧ Ex w w' := by
  obtain ⟨a, c, rfl, h1, h2, _⟩ := hs.out
  unfold StR
  have hk1 : (min (l.length : Int) 40).toNat ≤ l.length := by omega
  have HC := Lib.hid (fun W (q : Ex w W) => cloneBo_any _ _ W ((hs.ex q).take hk1).1 (by rw [List.length_take]; omega))
  have hL : l.take (min (l.length : Int) 40).toNat = l.take 40 := by
    by_cases h5 : l.length ≤ 40
    · rw [List.take_of_length_le h5, List.take_of_length_le (by omega)]
    · rw [show (min (l.length : Int) 40).toNat = 40 by omega]
  rw [hL] at HC
  unfold maxLen at h2
  obtain ⟨m, hm⟩ : ∃ m, l.length = m := ⟨_, rfl⟩
  rw [hm] at HC h1 ⊢
  clear hs hm hk1 hL
  go_enter Tryd.func31, Tryd.ntmps31
  go_wp2_with (go_at_call 54; (with_reducible refine (HC.out _ (by (try show Ex _ _); with_reducible repeat (first | exact ex_refl _ | assumption | refine ex_drewL ?_ | refine ex_appR ?_ _ | refine ex_wx ?_ _ | refine ex_drew ?_ | refine ex_alloc ?_ _))).mono ?_); rintro e w3 ⟨u, rfl, hT, X, rfl⟩)
  go_ret
  exact ⟨_, rfl, owns_lower hT (ex_size (by (try show Ex _ _); with_reducible repeat (first | exact ex_refl _ | assumption | refine ex_drewL ?_ | refine ex_appR ?_ _ | refine ex_wx ?_ _ | refine ex_drew ?_ | refine ex_alloc ?_ _))), (by (try show Ex _ _); with_reducible repeat (first | exact ex_refl _ | assumption | refine ex_drewL ?_ | refine ex_appR ?_ _ | refine ex_wx ?_ _ | refine ex_drew ?_ | refine ex_alloc ?_ _))⟩
end Go.Proofs.YtabjamkkhlbajaaDoor

/- The log: what a step does, and what is told behind it. -/
set_option linter.unusedSimpArgs false
set_option linter.unusedVariables false
set_option maxRecDepth 20000
namespace Go.Proofs.YtabjamkkhlbajaaDoor
open Go.RowKit
attribute [local go_sem] Oper.semAt_some
theorem does_z {w0 W : World} (G : Glob w0) (k0 : Ex w0 W) {p q : Nat} {d : Dk} {wl : Wl} (h : LgZ w0.heap.size W p q d wl) (ok : LgOk wl) (kd n : Int) {dv kv : Value} {l : By} (hs : SlT W dv l) (hk : kv.oneCell' = true) (hops : d.ops + 2000 < 1000000000) (hq : d.qu.length + 2000 < 1000000) :
    Calls Tryd.prog 23 #[.agg (StR kd n dv kv), PT p] W (PostLz w0.heap.size W p q (putK HW (decide (kd = 5)) d wl (l.take 500))) := by
  have HD := Lib.hid (fun W' (x : Ex W W') => data_any kd n (hs.ex x) hk)
  have hl : (l.take 500).length ≤ 1000000 := by rw [List.length_take]; omega
  have hd1 : dv.oneCell' = true := by obtain ⟨a, c, rfl, _⟩ := hs.out; rfl
  obtain ⟨lx, hlx⟩ : ∃ lx, l.take 500 = lx := ⟨_, rfl⟩
  rw [hlx] at HD hl ⊢
  clear hlx hs
  by_cases h5 : kd = 5
  · have HP := Lib.hid (fun W' v (x : Ex W W') (hv : TyB W' v lx) => chk_z G (ex_trans k0 x) (h.ex x) ok v _ hv hl hops hq)
    have e5 : decide (kd = 5) = true := decide_eq_true h5
    rw [e5]
    subst h5
    obtain ⟨r, hr⟩ : ∃ r, putK HW true d wl lx = r := ⟨_, rfl⟩
    have hr2 : chkD HW d wl lx = r := hr
    rw [hr2] at HP
    rw [hr]
    unfold StR at HD ⊢
    clear hr hr2 h hl e5 ok hops hq
    go_enter Tryd.func23, Tryd.ntmps23
    go_wp2_with (first | (go_at_call 22; (with_reducible refine (HD.out _ (by (try show Ex _ _); with_reducible repeat (first | exact ex_refl _ | assumption | refine ex_drewL ?_ | refine ex_appR ?_ _ | refine ex_wx ?_ _ | refine ex_drew ?_ | refine ex_alloc ?_ _))).mono ?_); rintro e w3 ⟨u, rfl, hT, X, rfl⟩; obtain ⟨ta, tc, rfl, _⟩ := hT.out; replace hT := Lib.hid hT) | (go_at_call 14; (with_reducible refine (HP.out _ _ ((by (try show Ex _ _); with_reducible repeat (first | exact ex_refl _ | assumption | refine ex_drewL ?_ | refine ex_appR ?_ _ | refine ex_wx ?_ _ | refine ex_drew ?_ | refine ex_alloc ?_ _)) : Ex W _) hT.out).mono ?_); rintro e w4 ⟨rfl, hG, hK⟩; replace hK := Kz.trans (Kz.ofEx (W := W) (by (try show Ex _ _); with_reducible repeat (first | exact ex_refl _ | assumption | refine ex_drewL ?_ | refine ex_appR ?_ _ | refine ex_wx ?_ _ | refine ex_drew ?_ | refine ex_alloc ?_ _))) hK; replace hG := Lib.hid hG))
    go_ret
    exact ⟨rfl, hG.out, hK⟩
  · have HP := Lib.hid (fun W' v (x : Ex W W') (hv : TyB W' v lx) => app_z G (ex_trans k0 x) (h.ex x) ok v _ hv hl hops hq)
    have e5 : decide (kd = 5) = false := decide_eq_false h5
    rw [e5]
    obtain ⟨r, hr⟩ : ∃ r, putK HW false d wl lx = r := ⟨_, rfl⟩
    have hr2 : appD HW d wl lx = r := hr
    rw [hr2] at HP
    rw [hr]
    unfold StR at HD ⊢
    clear hr hr2 h hl e5 ok hops hq
    go_enter Tryd.func23, Tryd.ntmps23
    go_wp2_with (first | (go_at_call 22; (with_reducible refine (HD.out _ (by (try show Ex _ _); with_reducible repeat (first | exact ex_refl _ | assumption | refine ex_drewL ?_ | refine ex_appR ?_ _ | refine ex_wx ?_ _ | refine ex_drew ?_ | refine ex_alloc ?_ _))).mono ?_); rintro e w3 ⟨u, rfl, hT, X, rfl⟩; obtain ⟨ta, tc, rfl, _⟩ := hT.out; replace hT := Lib.hid hT) | (go_at_call 13; (with_reducible refine (HP.out _ _ ((by (try show Ex _ _); with_reducible repeat (first | exact ex_refl _ | assumption | refine ex_drewL ?_ | refine ex_appR ?_ _ | refine ex_wx ?_ _ | refine ex_drew ?_ | refine ex_alloc ?_ _)) : Ex W _) hT.out).mono ?_); rintro e w4 ⟨rfl, hG, hK⟩; replace hK := Kz.trans (Kz.ofEx (W := W) (by (try show Ex _ _); with_reducible repeat (first | exact ex_refl _ | assumption | refine ex_drewL ?_ | refine ex_appR ?_ _ | refine ex_wx ?_ _ | refine ex_drew ?_ | refine ex_alloc ?_ _))) hK; replace hG := Lib.hid hG))
    go_ret
    exact ⟨rfl, hG.out, hK⟩
theorem next_z {W : World} (kd n : Int) {dv kv lv : Value} {l : By} {ls : List By} (hs : SlT W dv l) (hk : kv.oneCell' = true) (ht : SlSh W lv ls) (h0 : 0 < ls.length) (hn : ls.length ≤ 100000) :
    Calls Tryd.prog 24 #[.agg (StR kd n dv kv), lv] W (PostSh W (nextL (decide (kd = 5)) ls (l.take 500))) := by
  have HD := Lib.hid (fun W' (x : Ex W W') => data_any kd n (hs.ex x) hk)
  have hd1 : dv.oneCell' = true := by obtain ⟨a, c, rfl, _⟩ := hs.out; rfl
  obtain ⟨lx, hlx⟩ : ∃ lx, l.take 500 = lx := ⟨_, rfl⟩
  rw [hlx] at HD ⊢
  clear hlx hs
  by_cases h5 : kd = 5
  · have e5 : decide (kd = 5) = true := decide_eq_true h5
    rw [e5]
    subst h5
    obtain ⟨a, c, rfl, h1, h2, _, _⟩ := ht.out
    unfold StR at HD ⊢
    unfold nextL
    rw [if_pos rfl]
    clear e5 ht
    generalize ls.length = m at *
    go_enter Tryd.func24, Tryd.ntmps24
    go_wp2_with (go_at_call 22; (with_reducible refine (HD.out _ (by (try show Ex _ _); with_reducible repeat (first | exact ex_refl _ | assumption | refine ex_drewL ?_ | refine ex_appR ?_ _ | refine ex_wx ?_ _ | refine ex_drew ?_ | refine ex_alloc ?_ _))).mono ?_); rintro e w3 ⟨u, rfl, hT, X, rfl⟩; obtain ⟨ta, tc, rfl, _⟩ := hT.out; replace hT := Lib.hid hT)
    go_ret
    exact ⟨_, rfl, ⟨_, 1, rfl, Nat.le_refl _, by decide, (fun e => by cases e), Or.inr ⟨_, 0, _, _, rfl, heap_alloc_at (by simp [go_sem]), fun j x hj => (by
      cases j with
      | zero => simp at hj; subst hj; exact ⟨_, rfl, hT.out.ky (Ky.ex (by (try show Ex _ _); with_reducible repeat (first | exact ex_refl _ | assumption | refine ex_drewL ?_ | refine ex_appR ?_ _ | refine ex_wx ?_ _ | refine ex_drew ?_ | refine ex_alloc ?_ _)))⟩
      | succ j => simp at hj)⟩⟩, (by (try show Ex _ _); with_reducible repeat (first | exact ex_refl _ | assumption | refine ex_drewL ?_ | refine ex_appR ?_ _ | refine ex_wx ?_ _ | refine ex_drew ?_ | refine ex_alloc ?_ _))⟩
  · have e5 : decide (kd = 5) = false := decide_eq_false h5
    rw [e5]
    obtain ⟨a, c, rfl, h1, h2, _, h4⟩ := ht.out
    rcases h4 with rfl | ⟨g, off, cs, fr, rfl, hb, hcc⟩
    · simp at h0
    obtain ⟨olds, q1, q2, q3⟩ := ht.olds (Nat.le_refl _)
    rw [List.take_length] at q3
    have hg := (Array.getElem?_eq_some_iff.1 hb).1
    obtain ⟨m, hm⟩ : ∃ m, ls.length = m := ⟨_, rfl⟩
    have Hm := Lib.hid hm
    rw [hm] at h1 hn h0 q1 ⊢
    have Q1 := Lib.hid q1
    have Q2 := Lib.hid (fun W' (x : Ex W W') (j : Nat) (u : Value) (hj : olds[j]? = some u) => show W'.cell? ((⟨g, off, none⟩ : Addr).add j) = some u from (by rw [← q2 j u hj]; exact (ex_below x).cell (p := (⟨g, off, none⟩ : Addr).add j) (by rw [Addr.add_lit]; exact hg)))
    have Q3 := Lib.hid q3
    unfold maxLen at h2
    unfold StR at HD ⊢
    unfold nextL
    rw [if_neg (by decide)]
    clear e5 ht hb hcc q1 q2 q3 hm
    go_enter Tryd.func24, Tryd.ntmps24
    go_wp2
    refine wp_region_seqA (W.alloc (.cells #[I kd, I n, dv, kv] 45)) [(0, true), (1, true), (2, true), (3, true), (4, true), (5, true), (6, true), (7, false), (8, false), (9, false), (10, true)] (by (try show Ex _ _); with_reducible repeat (first | exact ex_refl _ | assumption | refine ex_drewL ?_ | refine ex_appR ?_ _ | refine ex_wx ?_ _ | refine ex_drew ?_ | refine ex_alloc ?_ _)) (by kernel_rfl) (by kernel_rfl) (fun _ _ d _ _ h => by cases d <;> exact h) ?_
    simp only [List.map_cons, List.map_nil, nth]
    repeat (first | ((with_reducible refine wpSeq_look ?_); go_big_quiet_step (fail); (with_reducible refine wpQuiet_nil ?_)) | ((with_reducible refine wpSeq_effF ?_ ?_); (focus rfl); go_simp) | ((with_reducible refine wpSeq_eff ?_ ?_); (focus rfl); (try dsimp only); go_wp2_with ((first | (go_at_call 22; (with_reducible refine (HD.out _ (by (try show Ex _ _); with_reducible repeat (first | exact ex_refl _ | assumption | refine ex_drewL ?_ | refine ex_appR ?_ _ | refine ex_wx ?_ _ | refine ex_drew ?_ | refine ex_alloc ?_ _))).mono ?_); rintro e w3 ⟨u, rfl, hT, X, rfl⟩; (try simp only [wx_wx, wx_drew] at hT); obtain ⟨ta, tc, rfl, _⟩ := hT.out; replace hT := Lib.hid hT) | (at_builtin; refine wpAppSh _ _ rfl rfl (n := m) (olds := olds) rfl (fun e => by cases e) Q1.out (fun b eb => by cases eb; exact Q2.out _ (by (try show Ex _ _); with_reducible repeat (first | exact ex_refl _ | assumption | refine ex_drewL ?_ | refine ex_appR ?_ _ | refine ex_wx ?_ _ | refine ex_drew ?_ | refine ex_alloc ?_ _))) rfl (block_cell (o := 0) (heap_alloc_at (by simp [go_sem])) rfl).1 rfl (by omega) ?_; intro v4 w4 hS4 hX4; obtain ⟨X4, rfl⟩ := hX4; (try simp only [wx_wx, wx_drew] at hS4); obtain ⟨a4, c4, rfl, _⟩ := own_form hS4; replace hS4 := Lib.hid hS4))); refine mixQ_mk (by (try show Ex _ _); with_reducible repeat (first | exact ex_refl _ | assumption | refine ex_drewL ?_ | refine ex_appR ?_ _ | refine ex_wx ?_ _ | refine ex_drew ?_ | refine ex_alloc ?_ _)) ?_))
    refine wpSeq_nil ?_
    go_wp2
    go_ret
    exact ⟨_, rfl, slsh_snoc hS4.out Hm.out Q1.out (fun j x hj => by
      obtain ⟨u, k1, k2⟩ := Q3.out j x hj
      exact ⟨u, k1, k2.ky (Ky.ex (by (try show Ex _ _); with_reducible repeat (first | exact ex_refl _ | assumption | refine ex_drewL ?_ | refine ex_appR ?_ _ | refine ex_wx ?_ _ | refine ex_drew ?_ | refine ex_alloc ?_ _)))⟩) (hT.out.ky (Ky.ex (by (try show Ex _ _); with_reducible repeat (first | exact ex_refl _ | assumption | refine ex_drewL ?_ | refine ex_appR ?_ _ | refine ex_wx ?_ _ | refine ex_drew ?_ | refine ex_alloc ?_ _)))), (by (try show Ex _ _); with_reducible repeat (first | exact ex_refl _ | assumption | refine ex_drewL ?_ | refine ex_appR ?_ _ | refine ex_wx ?_ _ | refine ex_drew ?_ | refine ex_alloc ?_ _))⟩
end Go.Proofs.YtabjamkkhlbajaaDoor

/- The log: a new log of the laws; what the laws' wakes does, plain. -/
set_option linter.unusedSimpArgs false
set_option linter.unusedVariables false
set_option maxRecDepth 20000
namespace Go.Proofs.YtabjamkkhlbajaaDoor
open Go.RowKit
attribute [local go_sem] Oper.semAt_some
theorem Still.lg {d : Dk} {wl : Wl} (h : Still HW d wl) : LgOk wl := by
  have := h.hI.ok.lg wl.br
  exact this
theorem new_calm (n : Nat) : Calm (newD n) := ⟨rfl, rfl, rfl⟩
theorem put_step (k : Bool) {d : Dk} {w : Wl} (h : Still HW d w) (hc : Calm d) (b : By) (hb : b.length ≤ 50000) (ht : w.c.turn < 1073741824) (hf : (if k = true then 0 else w.c.used) + secs b.length ≤ w.c.n) :
    ∃ d' c', putK HW k d w b = (d', ⟨c', nextL k w.sh b, false⟩, 0) ∧ Still HW d' ⟨c', nextL k w.sh b, false⟩ ∧ Calm d' ∧ c'.turn = w.c.turn + 1 ∧ c'.n = w.c.n ∧ c'.used = (if k = true then 0 else w.c.used) + secs b.length ∧ d'.has.length = d.has.length ∧ d'.ops ≤ d.ops + secs b.length + 3 := by
  rcases put_law HW_len k h b hb ht with ⟨h1, _⟩ | ⟨_, c', d', e, k1, k2, k3, k4, k5, k6, k7, k8, k9, k10, k11⟩
  · omega
  · obtain ⟨rfl, hc'⟩ := k11 hc
    obtain ⟨q1, q2⟩ := k9 rfl
    exact ⟨d', c', k8, ⟨rfl, q1, q2⟩, hc', k1, k2, k3, k5, k6⟩
theorem put_full (k : Bool) {d : Dk} {w : Wl} (h : Still HW d w) (b : By) (hb : b.length ≤ 50000) (ht : w.c.turn < 1073741824) (hf : (if k = true then 0 else w.c.used) + secs b.length > w.c.n) : putK HW k d w b = (d, w, 6) := by
  rcases put_law HW_len k h b hb ht with ⟨_, h1⟩ | ⟨h1, _⟩
  · exact h1
  · omega
/-- A log that is begun. -/
def bgL : Wl := ⟨firstC HW 10, [[]], false⟩
theorem new_format : ∃ d, formatD HW (newD 22) 10 = (d, some bgL, 0) ∧ Calm d ∧ LogI HW d bgL [[]] 1 7 := by
  obtain ⟨d', h1, h2, h3, h4, h5, h6⟩ := fmt_law HW_len (d := newD 22) (n := 10) (new_calm _) (by simp [mayI, newD])
  exact ⟨d', h1, h2, ⟨⟨rfl, h5, h6⟩, rfl, by rw [h3]; simp [newD], Nat.le_refl _, by simpa [newD] using h4⟩⟩
def PostBg (w0 w : World) (e : Ending) (w' : World) : Prop := ∃ p q d, e = .returned (PT p) ∧ LgZ w0.heap.size w' p q d bgL ∧ Kz w0.heap.size w w' ∧ LogI HW d bgL [[]] 1 7 ∧ Calm d
theorem PostOz.some {Z : Nat} {W : World} {q : Nat} {d : Dk} {wl : Wl} {x : Int} {e : Ending} {W' : World} (h : PostOz Z W q (d, some wl, x) e W') : ∃ p, e = .returned (.tuple #[PT p, I x]) ∧ Kz Z W W' ∧ LgZ Z W' p q d wl := by
  obtain ⟨v, rfl, h1, h2, p, rfl, h3⟩ := h
  exact ⟨p, rfl, h1, h3⟩
theorem PostOz.none {Z : Nat} {W : World} {q : Nat} {d : Dk} {x : Int} {e : Ending} {W' : World} (h : PostOz Z W q (d, none, x) e W') : e = .returned (.tuple #[.pointer none, I x]) ∧ Kz Z W W' ∧ DkZ Z W' q d := by
  obtain ⟨v, rfl, h1, h2, rfl⟩ := h
  exact ⟨rfl, h1, h2⟩
theorem begun_z {w0 W : World} (G : Glob w0) (k0 : Ex w0 W) : Calls Tryd.prog 21 #[] W (PostBg w0 W) := by
  obtain ⟨d, hF, hC, hI⟩ := new_format
  have HN : Hid (∀ W', Ex W W' → Calls Tryd.prog 32 #[I 22] W' fun e w' => ∃ q, e = .returned (.tuple #[PT q, I 0]) ∧ DkZ w0.heap.size w' q (newD 22) ∧ Ex W' w') := Lib.hid (fun W' (x : Ex W W') => new_z (ex_trans k0 x) 22 (by omega) (by omega))
  have HFo := Lib.hid (fun W' (x : Ex W W') q (h : DkZ w0.heap.size W' q (newD 22)) => format_z G (ex_trans k0 x) h 10 (by simp [newD]) (by simp [newD]))
  rw [hF] at HFo
  have HI := Lib.hid (And.intro hI hC)
  clear hF hI hC
  go_enter Tryd.func21, Tryd.ntmps21
  go_wp2_with (first | (go_at_call 32; (with_reducible refine (HN.out _ (by (try show Ex _ _); with_reducible repeat (first | exact ex_refl _ | assumption | refine ex_drewL ?_ | refine ex_appR ?_ _ | refine ex_wx ?_ _ | refine ex_drew ?_ | refine ex_alloc ?_ _))).mono ?_); rintro e w2 ⟨q, rfl, hD, X2, rfl⟩; replace hD := Lib.hid hD) | (go_at_call 8; (with_reducible refine (HFo.out _ ((by (try show Ex _ _); with_reducible repeat (first | exact ex_refl _ | assumption | refine ex_drewL ?_ | refine ex_appR ?_ _ | refine ex_wx ?_ _ | refine ex_drew ?_ | refine ex_alloc ?_ _)) : Ex W _) _ hD.out).mono ?_); intro e w3 hP; obtain ⟨p, rfl, hK, hG⟩ := hP.some; clear hP; replace hK := Kz.trans (Kz.ofEx (W := W) (by (try show Ex _ _); with_reducible repeat (first | exact ex_refl _ | assumption | refine ex_drewL ?_ | refine ex_appR ?_ _ | refine ex_wx ?_ _ | refine ex_drew ?_ | refine ex_alloc ?_ _))) hK; replace hG := Lib.hid hG))
  go_ret
  exact ⟨_, _, _, rfl, hG.out, hK, HI.out.1, HI.out.2⟩
/-- What the laws' wakes does to a log. -/
theorem wake_chain (b1 b2 b3 : By) (h1 : b1.length = 60) (h2 : b2.length = 61) (h3 : b3.length = 1) : ∃ d1 w1 d2 w2 d3 w3 d5 w5 d6 w6,
    formatD HW (newD 10) 4 = (d1, some w1, 0) ∧ appD HW d1 w1 b1 = (d2, w2, 0) ∧ appD HW d2 w2 b2 = (d3, w3, 0) ∧ appD HW d3 w3 b3 = (d3, w3, 6) ∧ openD HW d3 = (d5, some w5, 0) ∧ chkD HW d5 w5 [] = (d6, w6, 0) ∧
    (LgOk w1 ∧ d1.ops ≤ 7 ∧ d1.qu = []) ∧ (LgOk w2 ∧ d2.ops ≤ 20 ∧ d2.qu = []) ∧ (LgOk w3 ∧ d3.ops ≤ 30 ∧ d3.qu = [] ∧ w3.c.turn = 3) ∧ (LgOk w5 ∧ d5.ops ≤ 60 ∧ d5.qu = [] ∧ w5.sh.length = 3 ∧ w5.c.n = 4 ∧ w5.c.used = 4 ∧ w5.c.turn = 4) ∧ (LgOk w6 ∧ w6.c.n = 4 ∧ w6.c.used = 1) := by
  have s1 : secs b1.length = 1 := by rw [h1]; rfl
  have s2 : secs b2.length = 2 := by rw [h2]; rfl
  have s3 : secs b3.length = 1 := by rw [h3]; rfl
  have s0 : secs ([] : By).length = 1 := rfl
  obtain ⟨d1, f1, f2, f3, f4, f5, f6⟩ := fmt_law HW_len (d := newD 10) (n := 4) (new_calm _) (by simp [mayI, newD])
  have S1 : Still HW d1 ⟨firstC HW 4, [[]], false⟩ := ⟨rfl, f5, f6⟩
  obtain ⟨d2, c2, g1, S2, C2, g4, g5, g6, g7, g8⟩ := put_step false S1 f2 b1 (by omega) (by show 1 < _; omega) (by rw [s1]; show 1 + 1 ≤ 4; omega)
  have g4 : c2.turn = 2 := g4
  have g5 : c2.n = 4 := g5
  have g6 : c2.used = 1 + secs b1.length := g6
  obtain ⟨d3, c3, i1, S3, C3, i4, i5, i6, i7, i8⟩ := put_step false S2 C2 b2 (by omega) (by show c2.turn < _; omega) (by show c2.used + _ ≤ c2.n; omega)
  have i4 : c3.turn = c2.turn + 1 := i4
  have i5 : c3.n = c2.n := i5
  have i6 : c3.used = c2.used + secs b2.length := i6
  have hno := put_full false S3 b3 (by omega) (by show c3.turn < _; omega) (by show c3.used + _ > c3.n; omega)
  obtain ⟨d5, j1, j2, j3, j4, j5, j6⟩ := open_known HW_len C3 (by rw [S3.qu]; simp) (c := c3) (sh := nextL false (nextL false [[]] b1) b2) (by rw [img_nil S3.qu]; exact S3.hI) (by omega)
  have S5 : Still HW d5 ⟨upC c3, nextL false (nextL false [[]] b1) b2, false⟩ := ⟨rfl, j3, j4⟩
  obtain ⟨d6, c6, l1, S6, C6, l4, l5, l6, l7, l8⟩ := put_step true S5 j2 [] (by simp) (by show c3.turn + 1 < _; omega) (by rw [s0]; show 0 + 1 ≤ c3.n; omega)
  have l5 : c6.n = c3.n := l5
  have l6 : c6.used = 0 + secs ([] : By).length := l6
  have f4 : d1.ops ≤ 0 + 7 := f4
  exact ⟨d1, _, d2, _, d3, _, d5, _, d6, _, f1, g1, i1, hno, j1, l1, ⟨S1.lg, by omega, f5⟩, ⟨S2.lg, by omega, S2.qu⟩, ⟨S3.lg, by omega, S3.qu, by show c3.turn = 3; omega⟩,
    ⟨S5.lg, by rw [j5]; omega, j3, by simp [nextL], by show c3.n = 4; omega, by show c3.used = 4; omega, by show c3.turn + 1 = 4; omega⟩, ⟨S6.lg, by show c6.n = 4; omega, by show c6.used = 1; omega⟩⟩
end Go.Proofs.YtabjamkkhlbajaaDoor

/- The log: the laws' wakes. -/
set_option linter.unusedSimpArgs false
set_option linter.unusedVariables false
set_option maxRecDepth 20000
namespace Go.Proofs.YtabjamkkhlbajaaDoor
open Go.RowKit
attribute [local go_sem] Oper.semAt_some
theorem tyb_alloc {w : World} {g n : Nat} {cs : Array Value} {fr : Nat × Nat} (b : By) (hb : b.length = n) (hn : n ≤ 1000) (hg : w.heap[g]? = some (.cells cs 5 fr)) (hc : ∀ j, j < n → cs[j]? = some (B (gF b j))) : TyB w (.slice (some ⟨g, 0, none⟩) n n) b := by
  subst hb
  exact ⟨_, b.length, rfl, Nat.le_refl _, by unfold maxLen; omega, (fun e => by cases e), Or.inr ⟨g, 0, cs, fr, rfl, hg, fun j hj => by rw [Nat.zero_add]; exact hc j hj⟩⟩
theorem tyb_one {w : World} {g : Nat} {fr : Nat × Nat} (hg : w.heap[g]? = some (.cells #[.int .u8 1] 5 fr)) : TyB w (.slice (some ⟨g, 0, none⟩) 1 1) [1] := tyb_alloc [1] rfl (by omega) hg fun j hj => by
  obtain rfl : j = 0 := by omega
  rfl
theorem tyb_nil (w : World) : TyB w (.slice none 0 0) [] := ⟨none, 0, rfl, by simp, by decide, fun _ => rfl, Or.inl rfl⟩
theorem zero_get (n j : Nat) (h : j < n) : gF (List.replicate n (0 : UInt8)) j = 0 := by
  unfold gF
  rw [List.getD_eq_getElem?_getD, List.getElem?_replicate, if_pos h]; rfl
def PostWk (w0 W : World) (e : Ending) (w' : World) : Prop := e = .returned (.bool true) ∧ Kz w0.heap.size W w'
set_option maxHeartbeats 1000000 in
theorem wakes_z {w0 W : World} (G : Glob w0) (k0 : Ex w0 W) : Calls Tryd.prog 7 #[] W (PostWk w0 W) := by
  obtain ⟨d1, w1, d2, w2, d3, w3, d5, w5, d6, w6, f1, f2, f3, f4, f5, f6, ⟨o1, p1, q1⟩, ⟨o2, p2, q2⟩, ⟨o3, p3, q3, t3⟩, ⟨o5, p5, q5, s5, n5, u5, t5⟩, ⟨o6, n6, u6⟩⟩ := wake_chain (List.replicate 60 0) (List.replicate 61 0) [1] (by simp) (by simp) rfl
  have HN : Hid (∀ W', Ex w0 W' → Calls Tryd.prog 32 #[I 10] W' fun e w' => ∃ q, e = .returned (.tuple #[PT q, I 0]) ∧ DkZ w0.heap.size w' q (newD 10) ∧ Ex W' w') := Lib.hid (fun W' x => new_z x 10 (by omega) (by omega))
  have HFo := Lib.hid (fun W' (x : Ex w0 W') q (h : DkZ w0.heap.size W' q (newD 10)) => format_z G x h 4 (by simp [newD]) (by simp [newD]))
  rw [f1] at HFo
  have HA1 := Lib.hid (fun W' v (x : Ex w0 W') p q (h : LgZ w0.heap.size W' p q d1 w1) (hv : TyB W' v (List.replicate 60 0)) => app_z G x h o1 v _ hv (by simp) (by omega) (by rw [q1]; simp))
  have HA2 := Lib.hid (fun W' v (x : Ex w0 W') p q (h : LgZ w0.heap.size W' p q d2 w2) (hv : TyB W' v (List.replicate 61 0)) => app_z G x h o2 v _ hv (by simp) (by omega) (by rw [q2]; simp))
  have HA3 := Lib.hid (fun W' v (x : Ex w0 W') p q (h : LgZ w0.heap.size W' p q d3 w3) (hv : TyB W' v [1]) => app_z G x h o3 v _ hv (by simp) (by omega) (by rw [q3]; simp))
  rw [f2] at HA1
  rw [f3] at HA2
  rw [f4] at HA3
  have HT3 : Hid (∀ W' p q, LgZ w0.heap.size W' p q d3 w3 → Calls Tryd.prog 18 #[PT p] W' (Post W' (.int .u32 3))) := Lib.hid fun W' p q h => by
    have := turn_z h
    rw [t3] at this
    exact this
  have HO := Lib.hid (fun W' (x : Ex w0 W') p q (h : LgZ w0.heap.size W' p q d3 w3) => open_z G x h.dk (by omega) (by rw [q3]; simp))
  rw [f5] at HO
  have HL5 : Hid (∀ W' p q, LgZ w0.heap.size W' p q d5 w5 → Calls Tryd.prog 16 #[PT p] W' (Post W' (I 2))) := Lib.hid fun W' p q h => by
    have := len_z h
    rw [s5] at this
    exact this
  have HF5 : Hid (∀ W' p q, LgZ w0.heap.size W' p q d5 w5 → Calls Tryd.prog 17 #[PT p] W' (Post W' (I 0))) := Lib.hid fun W' p q h => by
    have := left_z h o5
    rw [n5, u5] at this
    exact this
  have HT5 : Hid (∀ W' p q, LgZ w0.heap.size W' p q d5 w5 → Calls Tryd.prog 18 #[PT p] W' (Post W' (.int .u32 4))) := Lib.hid fun W' p q h => by
    have := turn_z h
    rw [t5] at this
    exact this
  have HC5 := Lib.hid (fun W' (x : Ex w0 W') p q (h : LgZ w0.heap.size W' p q d5 w5) => chk_z G x h o5 (.slice none 0 0) [] (tyb_nil _) (by simp) (by omega) (by rw [q5]; simp))
  rw [f6] at HC5
  have HF6 : Hid (∀ W' p q, LgZ w0.heap.size W' p q d6 w6 → Calls Tryd.prog 17 #[PT p] W' (Post W' (I 3))) := Lib.hid fun W' p q h => by
    have := left_z h o6
    rw [n6, u6] at this
    exact this
  clear f1 f2 f3 f4 f5 f6 o1 p1 q1 o2 p2 q2 o3 p3 q3 t3 o5 p5 q5 s5 n5 u5 t5 o6 n6 u6
  go_enter Tryd.func7, Tryd.ntmps7
  go_wp2_with (first | (go_at_call 17; (with_reducible refine (HF6.out _ _ _ (hG7.out.ex (by (try show Ex _ _); with_reducible repeat (first | exact ex_refl _ | assumption | refine ex_drewL ?_ | refine ex_appR ?_ _ | refine ex_wx ?_ _ | refine ex_drew ?_ | refine ex_alloc ?_ _)))).mono ?_); rintro e z8 ⟨rfl, Y8, rfl⟩) | (go_at_call 14; (with_reducible refine (HC5.out _ (by (try show Ex _ _); with_reducible repeat (first | exact ex_refl _ | assumption | refine ex_drewL ?_ | refine ex_appR ?_ _ | refine ex_wx ?_ _ | refine ex_drew ?_ | refine ex_alloc ?_ _)) _ _ (hG5.out.ex (by (try show Ex _ _); with_reducible repeat (first | exact ex_refl _ | assumption | refine ex_drewL ?_ | refine ex_appR ?_ _ | refine ex_wx ?_ _ | refine ex_drew ?_ | refine ex_alloc ?_ _)))).mono ?_); rintro e W7 ⟨rfl, hG7, hK7⟩; replace hK7 := Kz.trans (Kz.ofEx (W := W5) (by (try show Ex _ _); with_reducible repeat (first | exact ex_refl _ | assumption | refine ex_drewL ?_ | refine ex_appR ?_ _ | refine ex_wx ?_ _ | refine ex_drew ?_ | refine ex_alloc ?_ _))) hK7; have k7 := hK7.ex k5; replace hG7 := Lib.hid hG7) | (go_at_call 18; (with_reducible refine (HT5.out _ _ _ (hG5.out.ex (by (try show Ex _ _); with_reducible repeat (first | exact ex_refl _ | assumption | refine ex_drewL ?_ | refine ex_appR ?_ _ | refine ex_wx ?_ _ | refine ex_drew ?_ | refine ex_alloc ?_ _)))).mono ?_); rintro e z6 ⟨rfl, Y6, rfl⟩) | (go_at_call 17; (with_reducible refine (HF5.out _ _ _ (hG5.out.ex (by (try show Ex _ _); with_reducible repeat (first | exact ex_refl _ | assumption | refine ex_drewL ?_ | refine ex_appR ?_ _ | refine ex_wx ?_ _ | refine ex_drew ?_ | refine ex_alloc ?_ _)))).mono ?_); rintro e z6 ⟨rfl, Y6, rfl⟩) | (go_at_call 16; (with_reducible refine (HL5.out _ _ _ (hG5.out.ex (by (try show Ex _ _); with_reducible repeat (first | exact ex_refl _ | assumption | refine ex_drewL ?_ | refine ex_appR ?_ _ | refine ex_wx ?_ _ | refine ex_drew ?_ | refine ex_alloc ?_ _)))).mono ?_); rintro e z6 ⟨rfl, Y6, rfl⟩) | (go_at_call 9; (with_reducible refine (HO.out _ (by (try show Ex _ _); with_reducible repeat (first | exact ex_refl _ | assumption | refine ex_drewL ?_ | refine ex_appR ?_ _ | refine ex_wx ?_ _ | refine ex_drew ?_ | refine ex_alloc ?_ _)) _ _ (hG4.out.ex (by (try show Ex _ _); with_reducible repeat (first | exact ex_refl _ | assumption | refine ex_drewL ?_ | refine ex_appR ?_ _ | refine ex_wx ?_ _ | refine ex_drew ?_ | refine ex_alloc ?_ _)))).mono ?_); intro e W5 hP; obtain ⟨p5, rfl, hK5, hG5⟩ := hP.some; clear hP; replace hK5 := Kz.trans (Kz.ofEx (W := W4) (by (try show Ex _ _); with_reducible repeat (first | exact ex_refl _ | assumption | refine ex_drewL ?_ | refine ex_appR ?_ _ | refine ex_wx ?_ _ | refine ex_drew ?_ | refine ex_alloc ?_ _))) hK5; have k5 := hK5.ex k4; replace hG5 := Lib.hid hG5) | (go_at_call 18; (with_reducible refine (HT3.out _ _ _ (hG4.out.ex (by (try show Ex _ _); with_reducible repeat (first | exact ex_refl _ | assumption | refine ex_drewL ?_ | refine ex_appR ?_ _ | refine ex_wx ?_ _ | refine ex_drew ?_ | refine ex_alloc ?_ _)))).mono ?_); rintro e z5 ⟨rfl, Y5, rfl⟩) | (go_at_call 32; (with_reducible refine (HN.out _ (by (try show Ex _ _); with_reducible repeat (first | exact ex_refl _ | assumption | refine ex_drewL ?_ | refine ex_appR ?_ _ | refine ex_wx ?_ _ | refine ex_drew ?_ | refine ex_alloc ?_ _))).mono ?_); rintro e w2 ⟨q, rfl, hD, X2, rfl⟩; replace hD := Lib.hid hD) | (go_at_call 8; (with_reducible refine (HFo.out _ (by (try show Ex _ _); with_reducible repeat (first | exact ex_refl _ | assumption | refine ex_drewL ?_ | refine ex_appR ?_ _ | refine ex_wx ?_ _ | refine ex_drew ?_ | refine ex_alloc ?_ _)) _ hD.out).mono ?_); intro e W1 hP; obtain ⟨p, rfl, hK1, hG1⟩ := hP.some; clear hP; replace hK1 := Kz.trans (Kz.ofEx (W := W) (by (try show Ex _ _); with_reducible repeat (first | exact ex_refl _ | assumption | refine ex_drewL ?_ | refine ex_appR ?_ _ | refine ex_wx ?_ _ | refine ex_drew ?_ | refine ex_alloc ?_ _))) hK1; have k1 := hK1.ex k0; replace hG1 := Lib.hid hG1) | (go_at_call 13; (with_reducible refine (HA3.out _ _ (by (try show Ex _ _); with_reducible repeat (first | exact ex_refl _ | assumption | refine ex_drewL ?_ | refine ex_appR ?_ _ | refine ex_wx ?_ _ | refine ex_drew ?_ | refine ex_alloc ?_ _)) _ _ (hG3.out.ex (by (try show Ex _ _); with_reducible repeat (first | exact ex_refl _ | assumption | refine ex_drewL ?_ | refine ex_appR ?_ _ | refine ex_wx ?_ _ | refine ex_drew ?_ | refine ex_alloc ?_ _))) (tyb_one (heap_alloc_at (by simp [go_sem])))).mono ?_); rintro e W4 ⟨rfl, hG4, hK4⟩; replace hK4 := Kz.trans (Kz.ofEx (W := W3) (by (try show Ex _ _); with_reducible repeat (first | exact ex_refl _ | assumption | refine ex_drewL ?_ | refine ex_appR ?_ _ | refine ex_wx ?_ _ | refine ex_drew ?_ | refine ex_alloc ?_ _))) hK4; have k4 := hK4.ex k3; replace hG4 := Lib.hid hG4) | (go_at_call 13; (with_reducible refine (HA2.out _ _ (by (try show Ex _ _); with_reducible repeat (first | exact ex_refl _ | assumption | refine ex_drewL ?_ | refine ex_appR ?_ _ | refine ex_wx ?_ _ | refine ex_drew ?_ | refine ex_alloc ?_ _)) _ _ (hG2.out.ex (by (try show Ex _ _); with_reducible repeat (first | exact ex_refl _ | assumption | refine ex_drewL ?_ | refine ex_appR ?_ _ | refine ex_wx ?_ _ | refine ex_drew ?_ | refine ex_alloc ?_ _))) (tyb_alloc _ (by simp) (by omega) (heap_alloc_at (by simp [go_sem])) (fun j hj => (by rw [zero_get _ _ hj]; simp [hj])))).mono ?_); rintro e W3 ⟨rfl, hG3, hK3⟩; replace hK3 := Kz.trans (Kz.ofEx (W := W2) (by (try show Ex _ _); with_reducible repeat (first | exact ex_refl _ | assumption | refine ex_drewL ?_ | refine ex_appR ?_ _ | refine ex_wx ?_ _ | refine ex_drew ?_ | refine ex_alloc ?_ _))) hK3; have k3 := hK3.ex k2; replace hG3 := Lib.hid hG3) | (go_at_call 13; (with_reducible refine (HA1.out _ _ (by (try show Ex _ _); with_reducible repeat (first | exact ex_refl _ | assumption | refine ex_drewL ?_ | refine ex_appR ?_ _ | refine ex_wx ?_ _ | refine ex_drew ?_ | refine ex_alloc ?_ _)) _ _ (hG1.out.ex (by (try show Ex _ _); with_reducible repeat (first | exact ex_refl _ | assumption | refine ex_drewL ?_ | refine ex_appR ?_ _ | refine ex_wx ?_ _ | refine ex_drew ?_ | refine ex_alloc ?_ _))) (tyb_alloc _ (by simp) (by omega) (heap_alloc_at (by simp [go_sem])) (fun j hj => (by rw [zero_get _ _ hj]; simp [hj])))).mono ?_); rintro e W2 ⟨rfl, hG2, hK2⟩; replace hK2 := Kz.trans (Kz.ofEx (W := W1) (by (try show Ex _ _); with_reducible repeat (first | exact ex_refl _ | assumption | refine ex_drewL ?_ | refine ex_appR ?_ _ | refine ex_wx ?_ _ | refine ex_drew ?_ | refine ex_alloc ?_ _))) hK2; have k2 := hK2.ex k1; replace hG2 := Lib.hid hG2))
  go_ret
  exact ⟨rfl, hK1.trans (hK2.trans (hK3.trans (hK4.trans (hK5.trans (hK7.trans (Kz.ofEx (by (try show Ex _ _); with_reducible repeat (first | exact ex_refl _ | assumption | refine ex_drewL ?_ | refine ex_appR ?_ _ | refine ex_wx ?_ _ | refine ex_drew ?_ | refine ex_alloc ?_ _))))))))⟩
end Go.Proofs.YtabjamkkhlbajaaDoor

/- WalNothing: what nothing tells. -/
set_option linter.unusedSimpArgs false
set_option linter.unusedVariables false
set_option maxRecDepth 20000
namespace Go.Proofs.YtabjamkkhlbajaaDoor
open Go.RowKit
attribute [local go_sem] Oper.semAt_some
end Go.Proofs.YtabjamkkhlbajaaDoor

/- The log's laws: how the rows' data open. -/
set_option linter.unusedSimpArgs false
set_option linter.unusedVariables false
set_option linter.unnecessarySimpa false
set_option maxRecDepth 20000
namespace Go.Proofs.YtabjamkkhlbajaaDoor
open Go.RowKit Go.ChangeShapes Go.WideShapes Go.ChangeAt
def listF (n : Nat) (f : Nat → UInt8) : List UInt8 := (List.range n).map f
theorem listF_len (n : Nat) (f : Nat → UInt8) : (listF n f).length = n := by simp [listF]
theorem listF_at (n : Nat) (f : Nat → UInt8) (i : Nat) (h : i < n) : gF (listF n f) i = f i := by
  unfold gF listF; rw [List.getD_eq_getElem?_getD, List.getElem?_map, List.getElem?_range h]; rfl
theorem slt_of_ok {e : SlE} {w : World} (h : e.ok w) : SlT w e.v (listF e.n e.f) := by
  refine ⟨e.a, e.c, by rw [listF_len]; rfl, by rw [listF_len]; exact h.nc, h.cm, h.nil, ?_⟩
  unfold SlL
  rw [listF_len]
  exact SlB.congr h.at' fun i hi => (listF_at _ _ i hi).symm
def mkL {α : Type} (n : Nat) (E : Nat → α) : List α := (List.range n).map E
theorem mkL_len {α : Type} (n : Nat) (E : Nat → α) : (mkL n E).length = n := by simp [mkL]
theorem mkL_get {α : Type} {n : Nat} {E : Nat → α} {i : Nat} {e : α} (h : (mkL n E)[i]? = some e) : i < n ∧ E i = e := by
  have hi : i < n := by
    have := (List.getElem?_eq_some_iff.1 h).1
    rwa [mkL_len] at this
  unfold mkL at h
  rw [List.getElem?_map, List.getElem?_range hi] at h
  exact ⟨hi, by simpa using h⟩
theorem mkL_mem {α : Type} {n : Nat} {E : Nat → α} {e : α} (h : e ∈ mkL n E) : ∃ i, i < n ∧ E i = e := by
  unfold mkL at h
  obtain ⟨i, hi, he⟩ := List.mem_map.1 h
  exact ⟨i, List.mem_range.1 hi, he⟩
/-- A step of the laws. -/
structure Sp where
  kd : Int
  n : Int
  dat : By
  kp : List Bool
def KS (q : Sp × (Value × Value)) : List Value := [I q.1.kd, I q.1.n, q.2.1, q.2.2]
/-- What is known of a step's slices. -/
structure SpV (w : World) (q : Sp × (Value × Value)) : Prop where
  d : SlT w q.2.1 q.1.dat
  k : SlV1 KBo 1 w q.2.2 q.1.kp
  n1 : -9223372036854775808 ≤ q.1.n
  n2 : q.1.n < 9223372036854775808
structure StpsV (w : World) (v : Value) (m : List (Sp × (Value × Value))) : Prop where
  sl : SlV1 KS 4 w v m
  all : ∀ q ∈ m, SpV w q
section
variable {H : Type} {enc : TypeId × Value → H} {w : World} {base : Nat} {sp : Nat → Bool} {held : Bool}
theorem cstep : Tryd.prog.cellsOf 45 = 4 := by kernel_rfl
theorem cint : Tryd.prog.cellsOf 3 = 1 := by kernel_rfl
theorem cbool : Tryd.prog.cellsOf 4 = 1 := by kernel_rfl
theorem cbools : Tryd.prog.cellsOf 43 = 1 := by kernel_rfl
theorem c1rb : Tryd.prog.cellsOf 22 = 1 := by kernel_rfl
theorem int_of_trod {fuel : Nat} {cs : List Value} {x : DataW H × List MemPlace} (h : DataW.trod enc Tryd.prog w base sp held fuel 3 cs = some x) : ∃ n : Int, cs = [I n] ∧ -9223372036854775808 ≤ n ∧ n < 9223372036854775808 := by
  obtain ⟨n, hn, _, hw⟩ := DataW.trod_int Tryd.underlying3 h
  simp only [Lit.wf, Bool.and_eq_true, decide_eq_true_eq] at hw
  simp [IntKind.min, IntKind.max, IntKind.bits, IntKind.signed] at hw
  exact ⟨n, hn, by omega, by omega⟩
theorem bools_of_trod {fuel : Nat} {cs : List Value} {x : DataW H × List MemPlace} (h : DataW.trod enc Tryd.prog w base sp held fuel 43 cs = some x) : ∃ v l, cs = [v] ∧ SlV1 KBo 1 w v l := by
  obtain ⟨a, len, cap, rfl, h1, h2, h3, h4⟩ := slice_open Tryd.underlying43 cbool (by decide) h
  rcases h4 with rfl | ⟨g, off, rfl, hg, hi⟩
  · exact ⟨_, [], rfl, ⟨a, cap, rfl, h1, h2, h3, SlR.nil _ _ _ _⟩⟩
  · have hx : ∀ i, ∃ b : Bool, i < len → w.cell? ⟨g, off + i, none⟩ = some (.bool b) := by
      intro i
      by_cases hil : i < len
      · obtain ⟨ecs, f', y, hc, hy⟩ := hi i hil
        obtain ⟨b, rfl, _⟩ := DataW.trod_bool Tryd.underlying4 hy
        obtain ⟨v, hv1, hv2⟩ := hc 0 (by decide)
        simp at hv1
        subst hv1
        exact ⟨b, fun _ => by rw [show off + i = off + (i * 1 + 0) by omega, hv2]⟩
      · exact ⟨false, fun h => absurd h hil⟩
    obtain ⟨E, hE⟩ := Classical.skolem.1 hx
    refine ⟨_, mkL len E, rfl, ⟨some ⟨g, off, none⟩, cap, by rw [mkL_len], by rw [mkL_len]; exact h1, h2, h3, ⟨Or.inr ⟨g, off, rfl, hg, fun i b hb => ?_⟩⟩⟩⟩
    obtain ⟨hil, rfl⟩ := mkL_get hb
    refine cellsN_some.2 ⟨rfl, fun j hj => ?_⟩
    obtain rfl : j = 0 := by omega
    rw [Nat.mul_one]
    exact hE i hil
theorem bytes_of_trod {fuel : Nat} {cs : List Value} {x : DataW H × List MemPlace} (h : DataW.trod enc Tryd.prog w base sp held fuel 22 cs = some x) : ∃ v l, cs = [v] ∧ SlT w v l := by
  obtain ⟨a, n, c, f, hv, h1, h2, h3, h4⟩ := slB_open Tryd.underlying22 Tryd.underlying5 cb h
  exact ⟨_, _, hv, slt_of_ok (e := ⟨a, n, c, f⟩) ⟨h1, h2, h3, h4⟩⟩
theorem step_of_trod {fuel : Nat} {cs : List Value} {x : DataW H × List MemPlace} (h : DataW.trod enc Tryd.prog w base sp held fuel 45 cs = some x) : ∃ q : Sp × (Value × Value), cs = KS q ∧ SpV w q := by
  obtain ⟨xs, m, _, _, hl, hxl, hel⟩ := DataW.trod_struct Tryd.underlying45 h
  rw [cstep] at hl
  have hxl' : xs.length = 4 := hxl
  have e0 : DataW.trod enc Tryd.prog w base sp held m 3 ((cs.drop 0).take (Tryd.prog.cellsOf 3)) = xs[0]? := hel 0 _ rfl
  have e1 : DataW.trod enc Tryd.prog w base sp held m 3 ((cs.drop 1).take (Tryd.prog.cellsOf 3)) = xs[1]? := hel 1 _ rfl
  have e2 : DataW.trod enc Tryd.prog w base sp held m 22 ((cs.drop 2).take (Tryd.prog.cellsOf 22)) = xs[2]? := hel 2 _ rfl
  have e3 : DataW.trod enc Tryd.prog w base sp held m 43 ((cs.drop 3).take (Tryd.prog.cellsOf 43)) = xs[3]? := hel 3 _ rfl
  rw [cint] at e0 e1
  rw [c1rb] at e2
  rw [cbools] at e3
  rw [List.getElem?_eq_getElem (by omega)] at e0 e1 e2 e3
  obtain ⟨n0, h0, b0⟩ := int_of_trod e0
  obtain ⟨n1, h1, b1⟩ := int_of_trod e1
  obtain ⟨v2, l2, h2, s2⟩ := bytes_of_trod e2
  obtain ⟨v3, l3, h3, s3⟩ := bools_of_trod e3
  obtain ⟨a0, a1, a2, a3, rfl⟩ : ∃ a b c d, cs = [a, b, c, d] := by
    match cs, hl with
    | [a, b, c, d], _ => exact ⟨a, b, c, d, rfl⟩
  simp at h0 h1 h2 h3
  subst h0 h1 h2 h3
  exact ⟨(⟨n0, n1, l2, l3⟩, (a2, a3)), rfl, ⟨s2, s3, b1.1, b1.2⟩⟩
theorem argSteps {b0 : Nat} {r : Reach} {v : Value} {d : DataW H} {p : List MemPlace} (h : Value.okWide Tryd.prog w r b0 50 v) (hd : DataW.Trod enc Tryd.prog w base sp held 50 v d p) : ∃ m, StpsV w v m := by
  obtain ⟨fuel, x, hx⟩ := arg_slice Tryd.underlying50 h hd
  obtain ⟨a, len, cap, hv, h1, h2, h3, h4⟩ := slice_open Tryd.underlying50 cstep (by decide) hx
  obtain rfl : v = .slice a len cap := by simpa using hv
  rcases h4 with rfl | ⟨g, off, rfl, hg, hi⟩
  · exact ⟨[], ⟨⟨a, cap, rfl, h1, h2, h3, SlR.nil _ _ _ _⟩⟩, (fun _ h => by cases h)⟩
  · have hx : ∀ i, ∃ q : Sp × (Value × Value), i < len → cellsN w g (off + i * 4) 4 = some (KS q).toArray ∧ SpV w q := by
      intro i
      by_cases hil : i < len
      · obtain ⟨ecs, f', y, hc, hy⟩ := hi i hil
        obtain ⟨q, rfl, hq⟩ := step_of_trod hy
        refine ⟨q, fun _ => ⟨cellsN_some.2 ⟨rfl, fun j hj => ?_⟩, hq⟩⟩
        obtain ⟨v, hv1, hv2⟩ := hc j hj
        rw [Nat.add_assoc, hv2, ← hv1, List.getElem?_toArray]
      · exact ⟨(⟨0, 0, [], []⟩, (undef, undef)), fun h => absurd h hil⟩
    obtain ⟨E, hE⟩ := Classical.skolem.1 hx
    refine ⟨mkL len E, ⟨some ⟨g, off, none⟩, cap, by rw [mkL_len], by rw [mkL_len]; exact h1, h2, h3, ⟨Or.inr ⟨g, off, rfl, hg, fun i b hb => ?_⟩⟩⟩, fun q hq => ?_⟩
    · obtain ⟨hil, rfl⟩ := mkL_get hb
      exact (hE i hil).1
    · obtain ⟨i, hil, rfl⟩ := mkL_mem hq
      exact (hE i hil).2
end
end Go.Proofs.YtabjamkkhlbajaaDoor

/- WalSides: what it does. -/
set_option linter.unusedSimpArgs false
set_option linter.unusedVariables false
set_option maxRecDepth 20000
namespace Go.Proofs.YtabjamkkhlbajaaDoor
open Go.RowKit
attribute [local go_sem] Oper.semAt_some
theorem LogI.lens {d : Dk} {wl : Wl} {l : List By} {T U : Nat} (h : LogI HW d wl l T U) : 0 < l.length ∧ l.length ≤ 1000 ∧ ∀ b ∈ l, b.length ≤ 50000 := by
  obtain ⟨hs, rfl, hl, ht, hu⟩ := h
  have hk := hs.hI.ok
  have ok := hs.lg
  refine ⟨ok.a1, ok.an, fun b hb => ?_⟩
  have hn : wl.c.n ≤ 10 := by have := hk.n3; omega
  have h1 := hk.un
  have h2 := hk.u
  obtain ⟨s, t, e⟩ := List.append_of_mem hb
  have h3 : (wl.sh.flatMap sheetB).length = (s.flatMap sheetB).length + ((sheetB b).length + (t.flatMap sheetB).length) := by rw [e]; simp
  have h4 := sheetB_len b
  unfold secs at h4
  omega
theorem box_cells {w : World} {b : Nat} {u0 u1 u2 u3 : Value} {t : TypeId} (h : w.heap[b]? = some (.cells #[u0, u1, u2, u3] t (0, 0))) : w.cell? ⟨b, 0, none⟩ = some u0 ∧ w.cell? ⟨b, 1, none⟩ = some u1 ∧ w.cell? ⟨b, 2, none⟩ = some u2 ∧ w.cell? ⟨b, 3, none⟩ = some u3 ∧ b < w.heap.size :=
  ⟨by rw [cell_of_row w b 0 _ _ _ h]; rfl, by rw [cell_of_row w b 1 _ _ _ h]; rfl, by rw [cell_of_row w b 2 _ _ _ h]; rfl, by rw [cell_of_row w b 3 _ _ _ h]; rfl, (Array.getElem?_eq_some_iff.1 h).1⟩
theorem tz_step : ¬ Tz 45 := by unfold Tz; decide
end Go.Proofs.YtabjamkkhlbajaaDoor

/- WalTold: what comes of its log, plain. -/
set_option linter.unusedSimpArgs false
set_option linter.unusedVariables false
set_option maxRecDepth 20000
namespace Go.Proofs.YtabjamkkhlbajaaDoor
open Go.RowKit
/-- The n-th request from now on fails. -/
def dmD (d : Dk) (n : Int) : Dk := { d with dm := max n (-1) }
theorem fail_lit {d : Dk} (h : d.dark = false) (n : Int) : failD d n = (dmD d n, 0) := by unfold failD; rw [if_neg (by simp [h])]; rfl
theorem LogI.dm {d : Dk} {wl : Wl} {l : List By} {T U : Nat} (h : LogI HW d wl l T U) (n : Int) : LogI HW (dmD d n) wl l T U := ⟨⟨h.still.br, h.still.qu, h.still.hI⟩, h.sh, h.len, h.t, h.u⟩
end Go.Proofs.YtabjamkkhlbajaaDoor

/- WalHolds: what comes of its log, plain. -/
set_option linter.unusedSimpArgs false
set_option linter.unusedVariables false
set_option maxRecDepth 20000
namespace Go.Proofs.YtabjamkkhlbajaaDoor
open Go.RowKit
def arD (d : Dk) (n : Int) : Dk := { d with ar := max n (-1) }
theorem arm_lit {d : Dk} (h : d.dark = false) (n : Int) : armD d n = (arD d n, 0) := by unfold armD; rw [if_neg (by simp [h])]; rfl
theorem LogI.ar {d : Dk} {wl : Wl} {l : List By} {T U : Nat} (h : LogI HW d wl l T U) (n : Int) : LogI HW (arD d n) wl l T U := ⟨⟨h.still.br, h.still.qu, h.still.hI⟩, h.sh, h.len, h.t, h.u⟩
theorem then_zero {r : Dk × Int} {f : Dk → Dk × Int} (h : (thenD r f).2 = 0) : thenD r f = f r.1 := by
  unfold thenD at h ⊢
  by_cases h0 : r.2 = 0
  · rw [if_pos h0]
  · rw [if_neg h0] at h
    exact absurd h h0
theorem req_lit {d : Dk} {s : Int} {ch : Bool} (h : (reqD d s ch).2 = 0) : (reqD d s ch).1.dark = false := by
  unfold reqD at h ⊢
  split at h
  · simp at h
  rename_i h1
  rw [if_neg h1]
  split at h
  · simp at h
  rename_i h2
  rw [if_neg h2]
  split at h
  · simp at h
  rename_i h3
  rw [if_neg h3]
  split at h
  · simp at h
  rename_i h4
  rw [if_neg h4]
  simpa using h1
theorem sync_zero {d : Dk} (h : (syncD d).2 = 0) : (syncD d).1.dark = false := by
  unfold syncD at h ⊢
  split at h
  · rename_i h0
    rw [if_pos h0]
    exact req_lit h0
  · rename_i h0
    exact absurd h h0
theorem head_zero {H : By → By} {d : Dk} {c : Cm} (h : (headD H d c).2 = 0) : (headD H d c).1.dark = false := by
  unfold headD at h ⊢
  have e := then_zero h
  rw [e] at h ⊢
  exact sync_zero h
theorem lay_zero {H : By → By} {d : Dk} {a : Nat} {b : By} {c : Cm} (h : (layD H d a b c).2 = 0) : (layD H d a b c).1.dark = false := by
  unfold layD at h ⊢
  have e := then_zero h
  rw [e] at h ⊢
  exact head_zero h
theorem put_zero {H : By → By} {d : Dk} {w : Wl} {s u a : Nat} {m b : By} (h : (putD H d w s u a m b).2.2 = 0) : (putD H d w s u a m b).1.dark = false := by
  unfold putD at h ⊢
  split at h
  · simp at h
  rename_i h1
  rw [if_neg h1]
  split at h
  · simp at h
  rename_i h2
  rw [if_neg h2]
  split at h
  · simp at h
  rename_i h3
  rw [if_neg h3]
  split at h
  · rename_i h4
    rw [if_pos h4]
    exact lay_zero h4
  · rename_i h4
    exact absurd h h4
theorem putK_zero {H : By → By} {k : Bool} {d : Dk} {w : Wl} {b : By} (h : (putK H k d w b).2.2 = 0) : (putK H k d w b).1.dark = false := by
  unfold putK appD chkD at h ⊢
  split at h
  · rename_i hk; rw [if_pos hk]; exact put_zero h
  · rename_i hk; rw [if_neg hk]; exact put_zero h
theorem head_lens {img : List Bk} {c : Cm} {sh : List By} (h : HeadI HW img c sh) (hl : img.length = 22) : 0 < sh.length ∧ sh.length ≤ 1000 ∧ ∀ b ∈ sh, b.length ≤ 50000 := by
  have hk := h.ok
  have ok := CmOk.lg hk false
  refine ⟨ok.a1, ok.an, fun b hb => ?_⟩
  have hn : c.n ≤ 10 := by have := hk.n3; omega
  have h1 := hk.un
  have h2 := hk.u
  obtain ⟨s, t, e⟩ := List.append_of_mem hb
  have h3 : (sh.flatMap sheetB).length = (s.flatMap sheetB).length + ((sheetB b).length + (t.flatMap sheetB).length) := by rw [e]; simp
  have h4 := sheetB_len b
  unfold secs at h4
  omega
theorem DiskC.lens {d : Dk} {l : List By} {T U : Nat} (h : DiskC HW d l T U) : 0 < l.length ∧ l.length ≤ 1000 ∧ ∀ b ∈ l, b.length ≤ 50000 := by
  obtain ⟨c, hc, _⟩ := h.tells
  exact head_lens hc h.len
/-- A crash, an Open in which the power may go, a crash, an Open. -/
theorem holds_plain {d : Dk} {D : List By} {T U : Nat} (h : DiskC HW d D T U) (hT : T ≤ 10000) (fn : Int) (kp : List Bool) :
    ∃ w2 d2 e, openD HW (arD d fn) = (d2, (if e = 0 then some w2 else none), e) ∧ w2.sh = D ∧
      ∃ d4 w4, openD HW (crashD d2 kp) = (d4, some w4, 0) ∧ LogI HW d4 w4 D (T + 2) (U + 28) ∧ d4.dark = false ∧ d2.ops ≤ U + 14 ∧ (arD d fn).ops ≤ U := by
  obtain ⟨e1, c, d2, e, k1, k2, k3⟩ := h.arm HW_len fn (by omega)
  have e2 := arm_lit h.calm.dark fn
  rw [e2] at k1
  have h3 := k3 kp
  obtain ⟨hc, hq, ht, hl, hu⟩ := h3
  obtain ⟨c4, d4, e4, q1, q2, q3, q4, q5, q6, q7, q8, q9, q10⟩ := open_law HW_len (d := crashD d2 kp) (sh := D) (T := T + 1) hc.awake (by rw [hq]; simp) (by rw [img_nil hq]; exact ht) (by omega)
  obtain ⟨rfl, hc'⟩ := q10 hc
  obtain ⟨r1, r2, r3⟩ := q8 rfl
  have hn := q1.ok.n3
  have hun := q1.ok.un
  rw [img_len, hl] at hn
  have h2u : d2.ops ≤ U + 14 := by
    have : (crashD d2 kp).ops ≤ U + 14 := hu
    exact this
  exact ⟨⟨upC c, D, false⟩, d2, e, k1, rfl, d4, ⟨upC c4, D, false⟩, q3, ⟨⟨rfl, r1, r2⟩, rfl, by rw [q5, hl], by show c4.turn + 1 ≤ _; omega, by omega⟩, hc'.dark, h2u, h.u⟩
end Go.Proofs.YtabjamkkhlbajaaDoor

/- WalTold: what it does. -/
set_option linter.unusedSimpArgs false
set_option linter.unusedVariables false
set_option maxRecDepth 20000
namespace Go.Proofs.YtabjamkkhlbajaaDoor
open Go.RowKit
attribute [local go_sem] Oper.semAt_some
theorem steps_at {w W : World} {a : Option Addr} {n c : Nat} {m : List (Sp × (Value × Value))} (h : SlV1 KS 4 w (.slice a n c) m) (k0 : Ex w W) {k : Nat} {r : Sp × (Value × Value)} (hr : m[k]? = some r) :
    ∃ g off, a = some ⟨g, off, none⟩ ∧ g < W.heap.size ∧ W.cell? ⟨g, off + k * 4, none⟩ = some (I r.1.kd) ∧ W.cell? ⟨g, off + k * 4 + 1, none⟩ = some (I r.1.n) ∧ W.cell? ⟨g, off + k * 4 + 2, none⟩ = some r.2.1 ∧ W.cell? ⟨g, off + k * 4 + 3, none⟩ = some r.2.2 := by
  obtain ⟨a', c', e, h1, h2, h3, h4⟩ := h.out
  obtain ⟨rfl, _, _⟩ := Value.slice.inj e
  obtain ⟨g, off, rfl, hg, hc⟩ := h4.pos (by have := (List.getElem?_eq_some_iff.1 hr).1; omega)
  have hk := (cellsN_some.1 (hc k r hr)).2
  have hx : ∀ j, j < 4 → W.cell? ⟨g, off + k * 4 + j, none⟩ = (KS r).toArray[j]? := fun j hj => by
    rw [(ex_below k0).cell (p := ⟨g, off + k * 4 + j, none⟩) hg]
    exact hk j hj
  exact ⟨g, off, rfl, Nat.lt_of_lt_of_le hg (ex_size k0), hx 0 (by omega), hx 1 (by omega), hx 2 (by omega), hx 3 (by omega)⟩
end Go.Proofs.YtabjamkkhlbajaaDoor
