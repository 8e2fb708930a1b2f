import Derived.Test.YtabjamkkhlbajaaDoorMWords
import Derived.Test.YtabjamkkhlbajaaDoorMCopyS
import Derived.Test.YtabjamkkhlbajaaDoorMRng

/- Disks in memory: what is known of one, what a turn of one keeps. -/
set_option linter.unusedSimpArgs false
set_option linter.unusedVariables false
set_option maxRecDepth 20000
namespace Go.Proofs.YtabjamkkhlbajaaDoor
open Go.RowKit
abbrev PT (b : Nat) : Value := .pointer (some ⟨b, 0, none⟩)
def KK (b : Bk) : List Value := (rowB 64 (bkF b)).toList
theorem KK_len (b : Bk) : (KK b).length = 64 := by simp [KK]
@[go_sem] theorem KK_back (b : Bk) : (KK b).toArray = rowB 64 (bkF b) := by simp [KK]
def KQ (p : Pt) : List Value := I p.1 :: KK p.2
theorem KQ_len (p : Pt) : (KQ p).length = 65 := by simp [KQ, KK_len]
theorem KK_one (l : List Bk) : ∀ u ∈ l.flatMap KK, u.oneCell' = true := by
  intro u hu
  simp only [List.mem_flatMap] at hu
  obtain ⟨d, _, hd⟩ := hu
  exact Array.all_eq_true_iff_forall_mem.1 (rowB_one 64 (bkF d)) u (by unfold KK at hd; simpa using hd)
theorem KQ_one (l : List Pt) : ∀ u ∈ l.flatMap KQ, u.oneCell' = true := by
  intro u hu
  simp only [List.mem_flatMap] at hu
  obtain ⟨d, _, hd⟩ := hu
  unfold KQ at hd
  rcases List.mem_cons.1 hd with rfl | hd
  · rfl
  · exact KK_one [d.2] u (by simpa using hd)
/-- Where a disk lies. -/
structure Loc where
  p : Nat
  h : Nat
  q : Option Nat
def Loc.own (L : Loc) (b : Nat) : Prop := b = L.p ∨ b = L.h ∨ L.q = some b
/-- All but a disk's own blocks is kept; its own blocks then. -/
structure Dv (L : Loc) (w : World) (L' : Loc) (w' : World) : Prop where
  os : w'.os = w.os
  tape : w'.tape = w.tape
  output : w'.output = w.output
  size : w.heap.size ≤ w'.heap.size
  same : ∀ b, b < w.heap.size → ¬ L.own b → w'.heap[b]? = w.heap[b]?
  pp : L'.p = L.p
  hh : L'.h = L.h
  qq : ∀ g, L'.q = some g → L.q = some g ∨ w.heap.size ≤ g
theorem Dv.own {L L' : Loc} {w w' : World} (h : Dv L w L' w') {b : Nat} (hb : L'.own b) : L.own b ∨ w.heap.size ≤ b := by
  rcases hb with rfl | rfl | hb
  · exact Or.inl (Or.inl h.pp)
  · exact Or.inl (Or.inr (Or.inl h.hh))
  · rcases h.qq _ hb with h1 | h1
    · exact Or.inl (Or.inr (Or.inr h1))
    · exact Or.inr h1
theorem Dv.refl (L : Loc) (w : World) : Dv L w L w := ⟨rfl, rfl, rfl, Nat.le_refl _, fun _ _ _ => rfl, rfl, rfl, fun _ h => Or.inl h⟩
theorem Dv.trans {L1 L2 L3 : Loc} {a b c : World} (h : Dv L1 a L2 b) (k : Dv L2 b L3 c) : Dv L1 a L3 c := by
  refine ⟨k.os.trans h.os, k.tape.trans h.tape, k.output.trans h.output, Nat.le_trans h.size k.size, fun i hi ho => ?_, k.pp.trans h.pp, k.hh.trans h.hh, fun g hg => ?_⟩
  · rw [k.same i (Nat.lt_of_lt_of_le hi h.size) fun e => ?_, h.same i hi ho]
    rcases h.own e with h1 | h1
    · exact ho h1
    · omega
  · rcases k.qq g hg with h1 | h1
    · exact h.qq g h1
    · exact Or.inr (Nat.le_trans h.size h1)
theorem Dv.ofEx {L : Loc} {w w' : World} (k : Ex w w') : Dv L w L w' := by
  have hb := ex_below k
  exact ⟨hb.os, hb.tape, hb.output, hb.size, fun b h1 _ => hb.block b h1, rfl, rfl, fun _ h => Or.inl h⟩
theorem Dv.grow {L L' : Loc} {a b c : World} (h : Dv L a L' b) (k : Ex b c) : Dv L a L' c := h.trans (Dv.ofEx k)
theorem Dv.set {L L' : Loc} {w w' : World} (h : Dv L w L' w') {b : Nat} (hb : L'.own b) (o : Nat) (v : Value) : Dv L w L' (w'.setCell ⟨b, o, none⟩ v) :=
  h.trans ⟨rfl, rfl, rfl, by simp [World.setCell], fun k _ hk => setCell_heap v (fun e => hk (by rw [e]; exact hb)), rfl, rfl, fun _ h => Or.inl h⟩
theorem Dv.sets {L L' : Loc} {w w' : World} (h : Dv L w L' w') {b : Nat} (hb : L'.own b) (o : Nat) (vs : List Value) : Dv L w L' (w'.setCells b o vs) := by
  obtain ⟨h1, h2, h3⟩ := setCells_os b vs o w'
  exact h.trans ⟨h1, h2, h3, by rw [setCells_size]; exact Nat.le_refl _, fun k _ hk => setCells_heap _ _ _ _ _ (fun e => hk (by rw [e]; exact hb)), rfl, rfl, fun _ h => Or.inl h⟩
theorem Dv.below {L L' : Loc} {w w' : World} (h : Dv L w L' w') {Z : Nat} (hZ : Z ≤ w.heap.size) (ho : ∀ b, L.own b → Z ≤ b) : Below Z w w' :=
  ⟨h.os, h.tape, h.output, h.size, fun b hb => h.same b (by omega) fun e => by have := ho b e; omega⟩
/-- A disk in memory. -/
structure DkM (w : World) (L : Loc) (d : Dk) (qv : Value) : Prop where
  bp : w.heap[L.p]? = some (.cells #[.slice (some ⟨L.h, 0, none⟩) d.has.length d.has.length, qv, I d.ar, I d.dm, .bool d.dark, I (d.ops : Nat)] 89 (0, 0))
  bh : w.ownsRow 0 75 64 (.slice (some ⟨L.h, 0, none⟩) d.has.length d.has.length) d.has.length (d.has.flatMap KK)
  bq : w.ownsRow 0 113 65 qv d.qu.length (d.qu.flatMap KQ)
  qb : qv.ownBlock = L.q
  ph : L.p ≠ L.h
  pq : L.q ≠ some L.p
  hq : L.q ≠ some L.h
  ok : DkOk d
section
variable {w w' : World} {L : Loc} {d : Dk} {qv : Value}
theorem DkM.lt (h : DkM w L d qv) {b : Nat} (hb : L.own b) : b < w.heap.size := by
  rcases hb with rfl | rfl | hb
  · exact (Array.getElem?_eq_some_iff.1 h.bp).1
  · exact (h.bh.lt L.h rfl).2
  · exact (h.bq.lt b (h.qb.trans hb)).2
/-- Whatever leaves its own blocks alone. -/
theorem owns_same {w w' : World} {Z : Nat} {t : TypeId} {s : Nat} {v : Value} {n : Nat} {xs : List Value} (h : w.ownsRow Z t s v n xs) (k : ∀ b, v.ownBlock = some b → w'.heap[b]? = w.heap[b]?) : w'.ownsRow Z t s v n xs := by
  refine ⟨h.1, ?_⟩
  rcases h.2 with h0 | ⟨g, cap, cur, rfl, h1, h2, h3⟩
  · exact Or.inl h0
  · exact Or.inr ⟨g, cap, cur, rfl, h1, (k g rfl).trans h2, h3⟩
theorem DkM.keep (h : DkM w L d qv) (k : ∀ b, L.own b → w'.heap[b]? = w.heap[b]?) : DkM w' L d qv :=
  { h with bp := (k _ (Or.inl rfl)).trans h.bp, bh := owns_same h.bh fun b hb => k b (Or.inr (Or.inl (Option.some.inj hb).symm)), bq := owns_same h.bq fun b hb => k b (Or.inr (Or.inr (h.qb.symm.trans hb))) }
theorem DkM.ex (h : DkM w L d qv) (k : Ex w w') : DkM w' L d qv := h.keep fun b hb => (ex_below k).block b (h.lt hb)
/-- Behind what another disk did. -/
theorem DkM.apart {L2 L2' : Loc} (h : DkM w L d qv) (k : Dv L2 w L2' w') (ha : ∀ b, L.own b → ¬ L2.own b) : DkM w' L d qv := h.keep fun b hb => k.same b (h.lt hb) (ha b hb)
theorem DkM.cells (h : DkM w L d qv) : (w.cell? ⟨L.p, 0, none⟩ = some (.slice (some ⟨L.h, 0, none⟩) d.has.length d.has.length) ∧ w.cell? ⟨L.p, 1, none⟩ = some qv ∧ w.cell? ⟨L.p, 2, none⟩ = some (I d.ar) ∧ w.cell? ⟨L.p, 3, none⟩ = some (I d.dm) ∧ w.cell? ⟨L.p, 4, none⟩ = some (.bool d.dark) ∧ w.cell? ⟨L.p, 5, none⟩ = some (I (d.ops : Nat))) ∧
    (∀ o, w.frozen? ⟨L.p, o, none⟩ = false) ∧ L.p < w.heap.size := by
  have hc : ∀ o v, (#[.slice (some ⟨L.h, 0, none⟩) d.has.length d.has.length, qv, I d.ar, I d.dm, .bool d.dark, I (d.ops : Nat)] : Array Value)[o]? = some v → w.cell? ⟨L.p, o, none⟩ = some v := fun o v hv => by
    rw [cell_of_row w L.p o _ _ _ h.bp, hv]
  exact ⟨⟨hc 0 _ rfl, hc 1 _ rfl, hc 2 _ rfl, hc 3 _ rfl, hc 4 _ rfl, hc 5 _ rfl⟩, fun o => by simp [World.frozen?, h.bp], h.lt (Or.inl rfl)⟩
/-- A field that is turned. -/
theorem DkM.turn (h : DkM w L d qv) {o : Nat} {x : Value} {d' : Dk} (hs : d'.has = d.has) (hq : d'.qu = d.qu) (ok : DkOk d')
    (he : (#[.slice (some ⟨L.h, 0, none⟩) d.has.length d.has.length, qv, I d.ar, I d.dm, .bool d.dark, I (d.ops : Nat)] : Array Value).setIfInBounds o x = #[.slice (some ⟨L.h, 0, none⟩) d.has.length d.has.length, qv, I d'.ar, I d'.dm, .bool d'.dark, I (d'.ops : Nat)]) : DkM (w.setCell ⟨L.p, o, none⟩ x) L d' qv := by
  have hk : ∀ b, L.own b → b ≠ L.p → (w.setCell ⟨L.p, o, none⟩ x).heap[b]? = w.heap[b]? := fun b _ hb => setCell_heap x hb
  refine ⟨?_, ?_, ?_, h.qb, h.ph, h.pq, h.hq, ok⟩
  · rw [setCell_block _ h.bp, he, hs]
  · rw [hs]; exact owns_same h.bh fun b hb => hk b (Or.inr (Or.inl (Option.some.inj hb).symm)) (by rw [← Option.some.inj hb]; exact Ne.symm h.ph)
  · rw [hq]; exact owns_same h.bq fun b hb => hk b (Or.inr (Or.inr (h.qb.symm.trans hb))) (by rintro rfl; exact h.pq (h.qb.symm.trans hb))
end
/-- A disk in memory, its queue's slice whichever. -/
structure DkAt (w : World) (L : Loc) (d : Dk) : Prop where
  out : ∃ qv, DkM w L d qv
theorem DkAt.ex {w w' : World} {L : Loc} {d : Dk} (h : DkAt w L d) (k : Ex w w') : DkAt w' L d := by
  obtain ⟨qv, h⟩ := h.out
  exact ⟨qv, h.ex k⟩
theorem DkAt.ok {w : World} {L : Loc} {d : Dk} (h : DkAt w L d) : DkOk d := by
  obtain ⟨qv, h⟩ := h.out
  exact h.ok
theorem DkAt.lt {w : World} {L : Loc} {d : Dk} (h : DkAt w L d) {b : Nat} (hb : L.own b) : b < w.heap.size := by
  obtain ⟨qv, h⟩ := h.out
  exact h.lt hb
theorem DkAt.apart {w w' : World} {L : Loc} {d : Dk} {L2 L2' : Loc} (h : DkAt w L d) (k : Dv L2 w L2' w') (ha : ∀ b, L.own b → ¬ L2.own b) : DkAt w' L d := by
  obtain ⟨qv, h⟩ := h.out
  exact ⟨qv, h.apart k ha⟩
/-- What turned a disk. -/
def PostD (w : World) (L : Loc) (d' : Dk) (v : Value) (e : Ending) (w' : World) : Prop := ∃ L', e = .returned v ∧ DkAt w' L' d' ∧ Dv L w L' w'
end Go.Proofs.YtabjamkkhlbajaaDoor

/- Disks: power, a request's way. -/
set_option linter.unusedSimpArgs false
set_option linter.unusedVariables false
set_option maxRecDepth 20000
namespace Go.Proofs.YtabjamkkhlbajaaDoor
open Go.RowKit
theorem post_mk' {W w' : World} {v v' : Value} (h : v' = v) (k : Ex W w') : Post W v (.returned v') w' := ⟨by rw [h], k⟩
theorem lit_any {w : World} {L : Loc} {d : Dk} (h : DkAt w L d) : Calls Tryd.prog 49 #[PT L.p] w (Post w (I (litD d))) := by
  obtain ⟨qv, h⟩ := h.out
  obtain ⟨⟨c0, c1, c2, c3, c4, c5⟩, hf, hz⟩ := h.cells
  clear h
  unfold litD
  cases hd : d.dark <;> rw [hd] at c4
  all_goals
    go_enter Tryd.func49, Tryd.ntmps49
    go_wp2
    go_ret
    exact post_mk' rfl (by (try show Ex _ _); with_reducible repeat (first | exact ex_refl _ | assumption | refine ex_drewL ?_ | refine ex_appR ?_ _ | refine ex_wx ?_ _ | refine ex_drew ?_ | refine ex_alloc ?_ _))
theorem down_any (x : Int) (h1 : -1 ≤ x) (h2 : x < 9223372036854775808) (w : World) : Calls Tryd.prog 76 #[I x] w (Post w (.tuple #[I (down x), .bool (decide (x = 0))])) := by
  by_cases hx : x = -1
  · subst hx
    go_enter Tryd.func76, Tryd.ntmps76
    go_wp2
    go_ret2
    exact post_mk' rfl (by (try show Ex _ _); with_reducible repeat (first | exact ex_refl _ | assumption | refine ex_drewL ?_ | refine ex_appR ?_ _ | refine ex_wx ?_ _ | refine ex_drew ?_ | refine ex_alloc ?_ _))
  · have he : (x == -1) = false := beq_eq_false_iff_ne.2 hx
    have hw : wrap64 (x - 1) = x - 1 := by unfold wrap64; omega
    have hd : down x = x - 1 := by unfold down; rw [if_neg hx]
    rw [hd]
    go_enter Tryd.func76, Tryd.ntmps76
    go_wp2
    go_ret2
    refine post_mk' ?_ (by (try show Ex _ _); with_reducible repeat (first | exact ex_refl _ | assumption | refine ex_drewL ?_ | refine ex_appR ?_ _ | refine ex_wx ?_ _ | refine ex_drew ?_ | refine ex_alloc ?_ _))
    by_cases h0 : x = 0 <;> simp [h0]
section
variable {w : World} {L : Loc} {d : Dk} {qv : Value}
theorem DkM.setDm (h : DkM w L d qv) {x : Int} (h1 : -1 ≤ x) (h2 : x < 9223372036854775808) : DkM (w.setCell ⟨L.p, 3, none⟩ (I x)) L { d with dm := x } qv :=
  h.turn (d' := { d with dm := x }) rfl rfl { h.ok with d1 := h1, d2 := h2 } rfl
theorem DkM.setAr (h : DkM w L d qv) {x : Int} (h1 : -1 ≤ x) (h2 : x < 9223372036854775808) : DkM (w.setCell ⟨L.p, 2, none⟩ (I x)) L { d with ar := x } qv :=
  h.turn (d' := { d with ar := x }) rfl rfl { h.ok with a1 := h1, a2 := h2 } rfl
theorem DkM.setDark (h : DkM w L d qv) (b : Bool) : DkM (w.setCell ⟨L.p, 4, none⟩ (.bool b)) L { d with dark := b } qv :=
  h.turn (d' := { d with dark := b }) rfl rfl { h.ok with } rfl
theorem DkM.setOps (h : DkM w L d qv) {n : Nat} (hn : n ≤ 1000000000) : DkM (w.setCell ⟨L.p, 5, none⟩ (I (n : Nat))) L { d with ops := n } qv :=
  h.turn (d' := { d with ops := n }) rfl rfl { h.ok with on := hn } rfl
theorem Dv.setP {L L' : Loc} {w w' : World} (h : Dv L w L' w') (o : Nat) (v : Value) : Dv L w L' (w'.setCell ⟨L'.p, o, none⟩ v) := h.set (Or.inl rfl) o v
end
theorem down_lo {x : Int} (h1 : -1 ≤ x) : -1 ≤ down x := by unfold down; split <;> omega
theorem down_hi {x : Int} (h1 : -1 ≤ x) (h2 : x < 9223372036854775808) : down x < 9223372036854775808 := by unfold down; split <;> omega
/-- What a request leads to. -/
def PostRq (w : World) (L : Loc) (d : Dk) (s : Int) (ch : Bool) (E : World → Prop) (e : Ending) (w' : World) : Prop :=
  ((reqD d s ch).2 ≠ 0 ∧ e = .returned (I (reqD d s ch).2) ∧ DkAt w' L (reqD d s ch).1 ∧ Dv L w L w') ∨
  ((reqD d s ch).2 = 0 ∧ e = .returned (I 0) ∧ ∃ W, E W ∧ w' = W.setCell ⟨L.p, 5, none⟩ (I ((d.ops : Int) + 1)))
set_option maxHeartbeats 1000000 in
theorem requestR_any {w : World} {L : Loc} {d : Dk} (h : DkAt w L d) (s : Int) (hs1 : -9223372036854775808 ≤ s) (hs2 : s < 9223372036854775808) (ch : Bool) (cap : Array Value) (E : World → Prop) (hops : d.ops < 1000000000)
    (HW : (reqD d s ch).2 = 0 → ∀ W, DkAt W L (reqD d s ch).1 → Dv L w L W → Calls Tryd.prog 78 cap W fun e W' => e = .returned (.tuple #[]) ∧ E W')
    (HE : ∀ W, E W → W.cell? ⟨L.p, 5, none⟩ = some (I (d.ops : Nat)) ∧ W.frozen? ⟨L.p, 5, none⟩ = false ∧ L.p < W.heap.size) :
    Calls Tryd.prog 60 #[PT L.p, I s, .bool ch, .func (.func 78) #[] cap] w (PostRq w L d s ch E) := by
  have HL := Lib.hid (fun W (k : Ex w W) => lit_any (h.ex k))
  obtain ⟨qv, hM⟩ := h.out
  obtain ⟨⟨c0, c1, c2, c3, c4, c5⟩, hf, hz⟩ := hM.cells
  have ok := hM.ok
  obtain ⟨n1, n2, qn, qr, a1, a2, d1, d2, on⟩ := ok
  have f2 := hf 2
  have f3 := hf 3
  have f4 := hf 4
  have f5 := hf 5
  replace hM := Lib.hid hM
  clear h hf qr
  unfold litD at HL
  by_cases hd : d.dark = true
  · have hr : reqD d s ch = (d, 9) := by unfold reqD; rw [if_pos hd]
    unfold PostRq
    rw [hr]
    simp only [hd, if_true] at HL
    clear HW HE hr
    go_enter Tryd.func60, Tryd.ntmps60
    go_wp2_with (go_at_call 49; (with_reducible refine (HL.out _ (by (try show Ex _ _); with_reducible repeat (first | exact ex_refl _ | assumption | refine ex_drewL ?_ | refine ex_appR ?_ _ | refine ex_wx ?_ _ | refine ex_drew ?_ | refine ex_alloc ?_ _))).mono ?_); rintro e w2 ⟨rfl, X, rfl⟩)
    go_ret
    exact Or.inl ⟨by decide, rfl, ⟨_, hM.out.ex (by (try show Ex _ _); with_reducible repeat (first | exact ex_refl _ | assumption | refine ex_drewL ?_ | refine ex_appR ?_ _ | refine ex_wx ?_ _ | refine ex_drew ?_ | refine ex_alloc ?_ _))⟩, Dv.ofEx (by (try show Ex _ _); with_reducible repeat (first | exact ex_refl _ | assumption | refine ex_drewL ?_ | refine ex_appR ?_ _ | refine ex_wx ?_ _ | refine ex_drew ?_ | refine ex_alloc ?_ _))⟩
  simp only [hd, if_false] at HL
  have hdk : d.dark = false := by simpa using hd
  by_cases hin : 0 ≤ s ∧ s < d.has.length
  · have hin' := hin
    obtain ⟨i1, i2⟩ := hin
    have hu : IntKind.u64.wrap s = s := by rw [IntKind.wrap_u64]; omega
    have hul : IntKind.u64.wrap (d.has.length : Int) = (d.has.length : Int) := by rw [IntKind.wrap_u64]; omega
    have HD := Lib.hid (fun W => down_any d.dm d1 d2 W)
    have HA := Lib.hid (fun W => down_any d.ar a1 a2 W)
    have l1 := down_lo d1
    have l2 := down_hi d1 d2
    have l3 := down_lo a1
    have l4 := down_hi a1 a2
    by_cases hca : ch = true ∧ d.ar = 0
    · have hr : reqD d s ch = ({ d with dm := down d.dm, dark := true }, 9) := by unfold reqD; rw [if_neg hd, if_neg (by simpa using hin'), if_pos hca]
      unfold PostRq
      rw [hr]
      obtain ⟨rfl, har⟩ := hca
      rw [har] at c2
      clear HW HE hr HA
      generalize down d.dm = y at *
      go_enter Tryd.func60, Tryd.ntmps60
      go_wp2_with (first | (go_at_call 49; (with_reducible refine (HL.out _ (by (try show Ex _ _); with_reducible repeat (first | exact ex_refl _ | assumption | refine ex_drewL ?_ | refine ex_appR ?_ _ | refine ex_wx ?_ _ | refine ex_drew ?_ | refine ex_alloc ?_ _))).mono ?_); rintro e w2 ⟨rfl, X, rfl⟩) | (go_at_call 76; (with_reducible refine (HD.out _).mono ?_); rintro e w3 ⟨rfl, X3, rfl⟩))
      go_ret
      exact Or.inl ⟨by decide, rfl, ⟨_, ((hM.out.setDm l1 l2).setDark true).ex (by (try show Ex _ _); with_reducible repeat (first | exact ex_refl _ | assumption | refine ex_drewL ?_ | refine ex_appR ?_ _ | refine ex_wx ?_ _ | refine ex_drew ?_ | refine ex_alloc ?_ _))⟩, (((Dv.refl _ _).setP 3 _).setP 4 _).grow (by (try show Ex _ _); with_reducible repeat (first | exact ex_refl _ | assumption | refine ex_drewL ?_ | refine ex_appR ?_ _ | refine ex_wx ?_ _ | refine ex_drew ?_ | refine ex_alloc ?_ _))⟩
    · have hr0 : reqD d s ch = if d.dm = 0 then ({ d with dm := down d.dm }, 8) else ({ d with dm := down d.dm, ar := if ch then down d.ar else d.ar }, 0) := by unfold reqD; rw [if_neg hd, if_neg (by simpa using hin'), if_neg hca]
      by_cases hm : d.dm = 0
      · have hr : reqD d s ch = ({ d with dm := down d.dm }, 8) := by rw [hr0, if_pos hm]
        have hmd : decide (d.dm = 0) = true := decide_eq_true hm
        rw [hmd] at HD
        unfold PostRq
        rw [hr]
        clear HW HE hr hr0 hmd hm
        generalize down d.dm = y at *
        cases ch with
        | true =>
          have har : (d.ar == 0) = false := beq_eq_false_iff_ne.2 fun h0 => hca ⟨rfl, h0⟩
          clear hca
          go_enter Tryd.func60, Tryd.ntmps60
          go_wp2_with (first | (go_at_call 49; (with_reducible refine (HL.out _ (by (try show Ex _ _); with_reducible repeat (first | exact ex_refl _ | assumption | refine ex_drewL ?_ | refine ex_appR ?_ _ | refine ex_wx ?_ _ | refine ex_drew ?_ | refine ex_alloc ?_ _))).mono ?_); rintro e w2 ⟨rfl, X, rfl⟩) | (go_at_call 76; (with_reducible refine (HD.out _).mono ?_); rintro e w3 ⟨rfl, X3, rfl⟩))
          go_ret
          exact Or.inl ⟨by decide, rfl, ⟨_, (hM.out.setDm l1 l2).ex (by (try show Ex _ _); with_reducible repeat (first | exact ex_refl _ | assumption | refine ex_drewL ?_ | refine ex_appR ?_ _ | refine ex_wx ?_ _ | refine ex_drew ?_ | refine ex_alloc ?_ _))⟩, ((Dv.refl _ _).setP 3 _).grow (by (try show Ex _ _); with_reducible repeat (first | exact ex_refl _ | assumption | refine ex_drewL ?_ | refine ex_appR ?_ _ | refine ex_wx ?_ _ | refine ex_drew ?_ | refine ex_alloc ?_ _))⟩
        | false =>
          clear hca
          go_enter Tryd.func60, Tryd.ntmps60
          go_wp2_with (first | (go_at_call 49; (with_reducible refine (HL.out _ (by (try show Ex _ _); with_reducible repeat (first | exact ex_refl _ | assumption | refine ex_drewL ?_ | refine ex_appR ?_ _ | refine ex_wx ?_ _ | refine ex_drew ?_ | refine ex_alloc ?_ _))).mono ?_); rintro e w2 ⟨rfl, X, rfl⟩) | (go_at_call 76; (with_reducible refine (HD.out _).mono ?_); rintro e w3 ⟨rfl, X3, rfl⟩))
          go_ret
          exact Or.inl ⟨by decide, rfl, ⟨_, (hM.out.setDm l1 l2).ex (by (try show Ex _ _); with_reducible repeat (first | exact ex_refl _ | assumption | refine ex_drewL ?_ | refine ex_appR ?_ _ | refine ex_wx ?_ _ | refine ex_drew ?_ | refine ex_alloc ?_ _))⟩, ((Dv.refl _ _).setP 3 _).grow (by (try show Ex _ _); with_reducible repeat (first | exact ex_refl _ | assumption | refine ex_drewL ?_ | refine ex_appR ?_ _ | refine ex_wx ?_ _ | refine ex_drew ?_ | refine ex_alloc ?_ _))⟩
      · have hr : reqD d s ch = ({ d with dm := down d.dm, ar := if ch then down d.ar else d.ar }, 0) := by rw [hr0, if_neg hm]
        have hmd : decide (d.dm = 0) = false := decide_eq_false hm
        rw [hmd] at HD
        unfold PostRq
        rw [hr] at HW ⊢
        have HW := Lib.hid (HW rfl)
        have HE := Lib.hid HE
        clear hr hr0 hmd hm
        generalize down d.dm = y at *
        cases ch with
        | true =>
          have har : (d.ar == 0) = false := beq_eq_false_iff_ne.2 fun h0 => hca ⟨rfl, h0⟩
          clear hca
          simp only [if_true] at HW
          generalize down d.ar = z at *
          have HW2 := Lib.hid (fun (X : More) => HW.out (wx ((w.setCell ⟨L.p, 3, none⟩ (I y)).setCell ⟨L.p, 2, none⟩ (I z)) X) ⟨_, ((hM.out.setDm l1 l2).setAr l3 l4).ex ⟨X, rfl⟩⟩ ((((Dv.refl _ _).setP 3 _).setP 2 _).grow ⟨X, rfl⟩))
          go_enter Tryd.func60, Tryd.ntmps60
          go_wp2_with (first | (go_at_call 49; (with_reducible refine (HL.out _ (by (try show Ex _ _); with_reducible repeat (first | exact ex_refl _ | assumption | refine ex_drewL ?_ | refine ex_appR ?_ _ | refine ex_wx ?_ _ | refine ex_drew ?_ | refine ex_alloc ?_ _))).mono ?_); rintro e w2 ⟨rfl, X, rfl⟩) | (go_at_call 76; (with_reducible refine (HD.out _).mono ?_); clear HD; rintro e w3 ⟨rfl, X3, rfl⟩) | (go_at_call 76; (with_reducible refine (HA.out _).mono ?_); clear HA; rintro e w4 ⟨rfl, X4, rfl⟩) | (go_at_call 78; (with_reducible refine (HW2.out _).mono ?_); rintro e w5 ⟨rfl, hE⟩; obtain ⟨k5, g5, z5⟩ := HE.out w5 hE; replace hE := Lib.hid hE))
          go_ret
          exact ⟨rfl, _, hE.out, rfl⟩
        | false =>
          clear hca
          simp only [Bool.false_eq_true, if_false] at HW
          have HW2 := Lib.hid (fun (X : More) => HW.out (wx (w.setCell ⟨L.p, 3, none⟩ (I y)) X) ⟨_, (hM.out.setDm l1 l2).ex ⟨X, rfl⟩⟩ (((Dv.refl _ _).setP 3 _).grow ⟨X, rfl⟩))
          go_enter Tryd.func60, Tryd.ntmps60
          go_wp2_with (first | (go_at_call 49; (with_reducible refine (HL.out _ (by (try show Ex _ _); with_reducible repeat (first | exact ex_refl _ | assumption | refine ex_drewL ?_ | refine ex_appR ?_ _ | refine ex_wx ?_ _ | refine ex_drew ?_ | refine ex_alloc ?_ _))).mono ?_); rintro e w2 ⟨rfl, X, rfl⟩) | (go_at_call 76; (with_reducible refine (HD.out _).mono ?_); clear HD; rintro e w3 ⟨rfl, X3, rfl⟩) | (go_at_call 78; (with_reducible refine (HW2.out _).mono ?_); rintro e w5 ⟨rfl, hE⟩; obtain ⟨k5, g5, z5⟩ := HE.out w5 hE; replace hE := Lib.hid hE))
          go_ret
          exact ⟨rfl, _, hE.out, rfl⟩
  · have hr : reqD d s ch = (d, 2) := by unfold reqD; rw [if_neg hd, if_pos (by simpa using hin)]
    unfold PostRq
    rw [hr]
    clear HW HE hr
    have hul : IntKind.u64.wrap (d.has.length : Int) = (d.has.length : Int) := by rw [IntKind.wrap_u64]; omega
    obtain ⟨u, hu, hge⟩ : ∃ u, IntKind.u64.wrap s = u ∧ (d.has.length : Int) ≤ u := ⟨_, rfl, by rw [IntKind.wrap_u64]; omega⟩
    go_enter Tryd.func60, Tryd.ntmps60
    go_wp2_with (go_at_call 49; (with_reducible refine (HL.out _ (by (try show Ex _ _); with_reducible repeat (first | exact ex_refl _ | assumption | refine ex_drewL ?_ | refine ex_appR ?_ _ | refine ex_wx ?_ _ | refine ex_drew ?_ | refine ex_alloc ?_ _))).mono ?_); rintro e w2 ⟨rfl, X, rfl⟩)
    go_ret
    exact Or.inl ⟨by decide, rfl, ⟨_, hM.out.ex (by (try show Ex _ _); with_reducible repeat (first | exact ex_refl _ | assumption | refine ex_drewL ?_ | refine ex_appR ?_ _ | refine ex_wx ?_ _ | refine ex_drew ?_ | refine ex_alloc ?_ _))⟩, Dv.ofEx (by (try show Ex _ _); with_reducible repeat (first | exact ex_refl _ | assumption | refine ex_drewL ?_ | refine ex_appR ?_ _ | refine ex_wx ?_ _ | refine ex_drew ?_ | refine ex_alloc ?_ _))⟩
set_option maxHeartbeats 1000000 in
theorem requestW_any {w : World} {L : Loc} {d : Dk} (h : DkAt w L d) (s : Int) (hs1 : -9223372036854775808 ≤ s) (hs2 : s < 9223372036854775808) (ch : Bool) (cap : Array Value) (E : World → Prop) (hops : d.ops < 1000000000)
    (HW : (reqD d s ch).2 = 0 → ∀ W, DkAt W L (reqD d s ch).1 → Dv L w L W → Calls Tryd.prog 75 cap W fun e W' => e = .returned (.tuple #[]) ∧ E W')
    (HE : ∀ W, E W → W.cell? ⟨L.p, 5, none⟩ = some (I (d.ops : Nat)) ∧ W.frozen? ⟨L.p, 5, none⟩ = false ∧ L.p < W.heap.size) :
    Calls Tryd.prog 60 #[PT L.p, I s, .bool ch, .func (.func 75) #[] cap] w (PostRq w L d s ch E) := by
  have HL := Lib.hid (fun W (k : Ex w W) => lit_any (h.ex k))
  obtain ⟨qv, hM⟩ := h.out
  obtain ⟨⟨c0, c1, c2, c3, c4, c5⟩, hf, hz⟩ := hM.cells
  have ok := hM.ok
  obtain ⟨n1, n2, qn, qr, a1, a2, d1, d2, on⟩ := ok
  have f2 := hf 2
  have f3 := hf 3
  have f4 := hf 4
  have f5 := hf 5
  replace hM := Lib.hid hM
  clear h hf qr
  unfold litD at HL
  by_cases hd : d.dark = true
  · have hr : reqD d s ch = (d, 9) := by unfold reqD; rw [if_pos hd]
    unfold PostRq
    rw [hr]
    simp only [hd, if_true] at HL
    clear HW HE hr
    go_enter Tryd.func60, Tryd.ntmps60
    go_wp2_with (go_at_call 49; (with_reducible refine (HL.out _ (by (try show Ex _ _); with_reducible repeat (first | exact ex_refl _ | assumption | refine ex_drewL ?_ | refine ex_appR ?_ _ | refine ex_wx ?_ _ | refine ex_drew ?_ | refine ex_alloc ?_ _))).mono ?_); rintro e w2 ⟨rfl, X, rfl⟩)
    go_ret
    exact Or.inl ⟨by decide, rfl, ⟨_, hM.out.ex (by (try show Ex _ _); with_reducible repeat (first | exact ex_refl _ | assumption | refine ex_drewL ?_ | refine ex_appR ?_ _ | refine ex_wx ?_ _ | refine ex_drew ?_ | refine ex_alloc ?_ _))⟩, Dv.ofEx (by (try show Ex _ _); with_reducible repeat (first | exact ex_refl _ | assumption | refine ex_drewL ?_ | refine ex_appR ?_ _ | refine ex_wx ?_ _ | refine ex_drew ?_ | refine ex_alloc ?_ _))⟩
  simp only [hd, if_false] at HL
  have hdk : d.dark = false := by simpa using hd
  by_cases hin : 0 ≤ s ∧ s < d.has.length
  · have hin' := hin
    obtain ⟨i1, i2⟩ := hin
    have hu : IntKind.u64.wrap s = s := by rw [IntKind.wrap_u64]; omega
    have hul : IntKind.u64.wrap (d.has.length : Int) = (d.has.length : Int) := by rw [IntKind.wrap_u64]; omega
    have HD := Lib.hid (fun W => down_any d.dm d1 d2 W)
    have HA := Lib.hid (fun W => down_any d.ar a1 a2 W)
    have l1 := down_lo d1
    have l2 := down_hi d1 d2
    have l3 := down_lo a1
    have l4 := down_hi a1 a2
    by_cases hca : ch = true ∧ d.ar = 0
    · have hr : reqD d s ch = ({ d with dm := down d.dm, dark := true }, 9) := by unfold reqD; rw [if_neg hd, if_neg (by simpa using hin'), if_pos hca]
      unfold PostRq
      rw [hr]
      obtain ⟨rfl, har⟩ := hca
      rw [har] at c2
      clear HW HE hr HA
      generalize down d.dm = y at *
      go_enter Tryd.func60, Tryd.ntmps60
      go_wp2_with (first | (go_at_call 49; (with_reducible refine (HL.out _ (by (try show Ex _ _); with_reducible repeat (first | exact ex_refl _ | assumption | refine ex_drewL ?_ | refine ex_appR ?_ _ | refine ex_wx ?_ _ | refine ex_drew ?_ | refine ex_alloc ?_ _))).mono ?_); rintro e w2 ⟨rfl, X, rfl⟩) | (go_at_call 76; (with_reducible refine (HD.out _).mono ?_); rintro e w3 ⟨rfl, X3, rfl⟩))
      go_ret
      exact Or.inl ⟨by decide, rfl, ⟨_, ((hM.out.setDm l1 l2).setDark true).ex (by (try show Ex _ _); with_reducible repeat (first | exact ex_refl _ | assumption | refine ex_drewL ?_ | refine ex_appR ?_ _ | refine ex_wx ?_ _ | refine ex_drew ?_ | refine ex_alloc ?_ _))⟩, (((Dv.refl _ _).setP 3 _).setP 4 _).grow (by (try show Ex _ _); with_reducible repeat (first | exact ex_refl _ | assumption | refine ex_drewL ?_ | refine ex_appR ?_ _ | refine ex_wx ?_ _ | refine ex_drew ?_ | refine ex_alloc ?_ _))⟩
    · have hr0 : reqD d s ch = if d.dm = 0 then ({ d with dm := down d.dm }, 8) else ({ d with dm := down d.dm, ar := if ch then down d.ar else d.ar }, 0) := by unfold reqD; rw [if_neg hd, if_neg (by simpa using hin'), if_neg hca]
      by_cases hm : d.dm = 0
      · have hr : reqD d s ch = ({ d with dm := down d.dm }, 8) := by rw [hr0, if_pos hm]
        have hmd : decide (d.dm = 0) = true := decide_eq_true hm
        rw [hmd] at HD
        unfold PostRq
        rw [hr]
        clear HW HE hr hr0 hmd hm
        generalize down d.dm = y at *
        cases ch with
        | true =>
          have har : (d.ar == 0) = false := beq_eq_false_iff_ne.2 fun h0 => hca ⟨rfl, h0⟩
          clear hca
          go_enter Tryd.func60, Tryd.ntmps60
          go_wp2_with (first | (go_at_call 49; (with_reducible refine (HL.out _ (by (try show Ex _ _); with_reducible repeat (first | exact ex_refl _ | assumption | refine ex_drewL ?_ | refine ex_appR ?_ _ | refine ex_wx ?_ _ | refine ex_drew ?_ | refine ex_alloc ?_ _))).mono ?_); rintro e w2 ⟨rfl, X, rfl⟩) | (go_at_call 76; (with_reducible refine (HD.out _).mono ?_); rintro e w3 ⟨rfl, X3, rfl⟩))
          go_ret
          exact Or.inl ⟨by decide, rfl, ⟨_, (hM.out.setDm l1 l2).ex (by (try show Ex _ _); with_reducible repeat (first | exact ex_refl _ | assumption | refine ex_drewL ?_ | refine ex_appR ?_ _ | refine ex_wx ?_ _ | refine ex_drew ?_ | refine ex_alloc ?_ _))⟩, ((Dv.refl _ _).setP 3 _).grow (by (try show Ex _ _); with_reducible repeat (first | exact ex_refl _ | assumption | refine ex_drewL ?_ | refine ex_appR ?_ _ | refine ex_wx ?_ _ | refine ex_drew ?_ | refine ex_alloc ?_ _))⟩
        | false =>
          clear hca
          go_enter Tryd.func60, Tryd.ntmps60
          go_wp2_with (first | (go_at_call 49; (with_reducible refine (HL.out _ (by (try show Ex _ _); with_reducible repeat (first | exact ex_refl _ | assumption | refine ex_drewL ?_ | refine ex_appR ?_ _ | refine ex_wx ?_ _ | refine ex_drew ?_ | refine ex_alloc ?_ _))).mono ?_); rintro e w2 ⟨rfl, X, rfl⟩) | (go_at_call 76; (with_reducible refine (HD.out _).mono ?_); rintro e w3 ⟨rfl, X3, rfl⟩))
          go_ret
          exact Or.inl ⟨by decide, rfl, ⟨_, (hM.out.setDm l1 l2).ex (by (try show Ex _ _); with_reducible repeat (first | exact ex_refl _ | assumption | refine ex_drewL ?_ | refine ex_appR ?_ _ | refine ex_wx ?_ _ | refine ex_drew ?_ | refine ex_alloc ?_ _))⟩, ((Dv.refl _ _).setP 3 _).grow (by (try show Ex _ _); with_reducible repeat (first | exact ex_refl _ | assumption | refine ex_drewL ?_ | refine ex_appR ?_ _ | refine ex_wx ?_ _ | refine ex_drew ?_ | refine ex_alloc ?_ _))⟩
      · have hr : reqD d s ch = ({ d with dm := down d.dm, ar := if ch then down d.ar else d.ar }, 0) := by rw [hr0, if_neg hm]
        have hmd : decide (d.dm = 0) = false := decide_eq_false hm
        rw [hmd] at HD
        unfold PostRq
        rw [hr] at HW ⊢
        have HW := Lib.hid (HW rfl)
        have HE := Lib.hid HE
        clear hr hr0 hmd hm
        generalize down d.dm = y at *
        cases ch with
        | true =>
          have har : (d.ar == 0) = false := beq_eq_false_iff_ne.2 fun h0 => hca ⟨rfl, h0⟩
          clear hca
          simp only [if_true] at HW
          generalize down d.ar = z at *
          have HW2 := Lib.hid (fun (X : More) => HW.out (wx ((w.setCell ⟨L.p, 3, none⟩ (I y)).setCell ⟨L.p, 2, none⟩ (I z)) X) ⟨_, ((hM.out.setDm l1 l2).setAr l3 l4).ex ⟨X, rfl⟩⟩ ((((Dv.refl _ _).setP 3 _).setP 2 _).grow ⟨X, rfl⟩))
          go_enter Tryd.func60, Tryd.ntmps60
          go_wp2_with (first | (go_at_call 49; (with_reducible refine (HL.out _ (by (try show Ex _ _); with_reducible repeat (first | exact ex_refl _ | assumption | refine ex_drewL ?_ | refine ex_appR ?_ _ | refine ex_wx ?_ _ | refine ex_drew ?_ | refine ex_alloc ?_ _))).mono ?_); rintro e w2 ⟨rfl, X, rfl⟩) | (go_at_call 76; (with_reducible refine (HD.out _).mono ?_); clear HD; rintro e w3 ⟨rfl, X3, rfl⟩) | (go_at_call 76; (with_reducible refine (HA.out _).mono ?_); clear HA; rintro e w4 ⟨rfl, X4, rfl⟩) | (go_at_call 75; (with_reducible refine (HW2.out _).mono ?_); rintro e w5 ⟨rfl, hE⟩; obtain ⟨k5, g5, z5⟩ := HE.out w5 hE; replace hE := Lib.hid hE))
          go_ret
          exact ⟨rfl, _, hE.out, rfl⟩
        | false =>
          clear hca
          simp only [Bool.false_eq_true, if_false] at HW
          have HW2 := Lib.hid (fun (X : More) => HW.out (wx (w.setCell ⟨L.p, 3, none⟩ (I y)) X) ⟨_, (hM.out.setDm l1 l2).ex ⟨X, rfl⟩⟩ (((Dv.refl _ _).setP 3 _).grow ⟨X, rfl⟩))
          go_enter Tryd.func60, Tryd.ntmps60
          go_wp2_with (first | (go_at_call 49; (with_reducible refine (HL.out _ (by (try show Ex _ _); with_reducible repeat (first | exact ex_refl _ | assumption | refine ex_drewL ?_ | refine ex_appR ?_ _ | refine ex_wx ?_ _ | refine ex_drew ?_ | refine ex_alloc ?_ _))).mono ?_); rintro e w2 ⟨rfl, X, rfl⟩) | (go_at_call 76; (with_reducible refine (HD.out _).mono ?_); clear HD; rintro e w3 ⟨rfl, X3, rfl⟩) | (go_at_call 75; (with_reducible refine (HW2.out _).mono ?_); rintro e w5 ⟨rfl, hE⟩; obtain ⟨k5, g5, z5⟩ := HE.out w5 hE; replace hE := Lib.hid hE))
          go_ret
          exact ⟨rfl, _, hE.out, rfl⟩
  · have hr : reqD d s ch = (d, 2) := by unfold reqD; rw [if_neg hd, if_pos (by simpa using hin)]
    unfold PostRq
    rw [hr]
    clear HW HE hr
    have hul : IntKind.u64.wrap (d.has.length : Int) = (d.has.length : Int) := by rw [IntKind.wrap_u64]; omega
    obtain ⟨u, hu, hge⟩ : ∃ u, IntKind.u64.wrap s = u ∧ (d.has.length : Int) ≤ u := ⟨_, rfl, by rw [IntKind.wrap_u64]; omega⟩
    go_enter Tryd.func60, Tryd.ntmps60
    go_wp2_with (go_at_call 49; (with_reducible refine (HL.out _ (by (try show Ex _ _); with_reducible repeat (first | exact ex_refl _ | assumption | refine ex_drewL ?_ | refine ex_appR ?_ _ | refine ex_wx ?_ _ | refine ex_drew ?_ | refine ex_alloc ?_ _))).mono ?_); rintro e w2 ⟨rfl, X, rfl⟩)
    go_ret
    exact Or.inl ⟨by decide, rfl, ⟨_, hM.out.ex (by (try show Ex _ _); with_reducible repeat (first | exact ex_refl _ | assumption | refine ex_drewL ?_ | refine ex_appR ?_ _ | refine ex_wx ?_ _ | refine ex_drew ?_ | refine ex_alloc ?_ _))⟩, Dv.ofEx (by (try show Ex _ _); with_reducible repeat (first | exact ex_refl _ | assumption | refine ex_drewL ?_ | refine ex_appR ?_ _ | refine ex_wx ?_ _ | refine ex_drew ?_ | refine ex_alloc ?_ _))⟩
set_option maxHeartbeats 1000000 in
theorem requestS_any {w : World} {L : Loc} {d : Dk} (h : DkAt w L d) (s : Int) (hs1 : -9223372036854775808 ≤ s) (hs2 : s < 9223372036854775808) (ch : Bool) (cap : Array Value) (E : World → Prop) (hops : d.ops < 1000000000)
    (HW : (reqD d s ch).2 = 0 → ∀ W, DkAt W L (reqD d s ch).1 → Dv L w L W → Calls Tryd.prog 61 cap W fun e W' => e = .returned (.tuple #[]) ∧ E W')
    (HE : ∀ W, E W → W.cell? ⟨L.p, 5, none⟩ = some (I (d.ops : Nat)) ∧ W.frozen? ⟨L.p, 5, none⟩ = false ∧ L.p < W.heap.size) :
    Calls Tryd.prog 60 #[PT L.p, I s, .bool ch, .func (.func 61) #[] cap] w (PostRq w L d s ch E) := by
  have HL := Lib.hid (fun W (k : Ex w W) => lit_any (h.ex k))
  obtain ⟨qv, hM⟩ := h.out
  obtain ⟨⟨c0, c1, c2, c3, c4, c5⟩, hf, hz⟩ := hM.cells
  have ok := hM.ok
  obtain ⟨n1, n2, qn, qr, a1, a2, d1, d2, on⟩ := ok
  have f2 := hf 2
  have f3 := hf 3
  have f4 := hf 4
  have f5 := hf 5
  replace hM := Lib.hid hM
  clear h hf qr
  unfold litD at HL
  by_cases hd : d.dark = true
  · have hr : reqD d s ch = (d, 9) := by unfold reqD; rw [if_pos hd]
    unfold PostRq
    rw [hr]
    simp only [hd, if_true] at HL
    clear HW HE hr
    go_enter Tryd.func60, Tryd.ntmps60
    go_wp2_with (go_at_call 49; (with_reducible refine (HL.out _ (by (try show Ex _ _); with_reducible repeat (first | exact ex_refl _ | assumption | refine ex_drewL ?_ | refine ex_appR ?_ _ | refine ex_wx ?_ _ | refine ex_drew ?_ | refine ex_alloc ?_ _))).mono ?_); rintro e w2 ⟨rfl, X, rfl⟩)
    go_ret
    exact Or.inl ⟨by decide, rfl, ⟨_, hM.out.ex (by (try show Ex _ _); with_reducible repeat (first | exact ex_refl _ | assumption | refine ex_drewL ?_ | refine ex_appR ?_ _ | refine ex_wx ?_ _ | refine ex_drew ?_ | refine ex_alloc ?_ _))⟩, Dv.ofEx (by (try show Ex _ _); with_reducible repeat (first | exact ex_refl _ | assumption | refine ex_drewL ?_ | refine ex_appR ?_ _ | refine ex_wx ?_ _ | refine ex_drew ?_ | refine ex_alloc ?_ _))⟩
  simp only [hd, if_false] at HL
  have hdk : d.dark = false := by simpa using hd
  by_cases hin : 0 ≤ s ∧ s < d.has.length
  · have hin' := hin
    obtain ⟨i1, i2⟩ := hin
    have hu : IntKind.u64.wrap s = s := by rw [IntKind.wrap_u64]; omega
    have hul : IntKind.u64.wrap (d.has.length : Int) = (d.has.length : Int) := by rw [IntKind.wrap_u64]; omega
    have HD := Lib.hid (fun W => down_any d.dm d1 d2 W)
    have HA := Lib.hid (fun W => down_any d.ar a1 a2 W)
    have l1 := down_lo d1
    have l2 := down_hi d1 d2
    have l3 := down_lo a1
    have l4 := down_hi a1 a2
    by_cases hca : ch = true ∧ d.ar = 0
    · have hr : reqD d s ch = ({ d with dm := down d.dm, dark := true }, 9) := by unfold reqD; rw [if_neg hd, if_neg (by simpa using hin'), if_pos hca]
      unfold PostRq
      rw [hr]
      obtain ⟨rfl, har⟩ := hca
      rw [har] at c2
      clear HW HE hr HA
      generalize down d.dm = y at *
      go_enter Tryd.func60, Tryd.ntmps60
      go_wp2_with (first | (go_at_call 49; (with_reducible refine (HL.out _ (by (try show Ex _ _); with_reducible repeat (first | exact ex_refl _ | assumption | refine ex_drewL ?_ | refine ex_appR ?_ _ | refine ex_wx ?_ _ | refine ex_drew ?_ | refine ex_alloc ?_ _))).mono ?_); rintro e w2 ⟨rfl, X, rfl⟩) | (go_at_call 76; (with_reducible refine (HD.out _).mono ?_); rintro e w3 ⟨rfl, X3, rfl⟩))
      go_ret
      exact Or.inl ⟨by decide, rfl, ⟨_, ((hM.out.setDm l1 l2).setDark true).ex (by (try show Ex _ _); with_reducible repeat (first | exact ex_refl _ | assumption | refine ex_drewL ?_ | refine ex_appR ?_ _ | refine ex_wx ?_ _ | refine ex_drew ?_ | refine ex_alloc ?_ _))⟩, (((Dv.refl _ _).setP 3 _).setP 4 _).grow (by (try show Ex _ _); with_reducible repeat (first | exact ex_refl _ | assumption | refine ex_drewL ?_ | refine ex_appR ?_ _ | refine ex_wx ?_ _ | refine ex_drew ?_ | refine ex_alloc ?_ _))⟩
    · have hr0 : reqD d s ch = if d.dm = 0 then ({ d with dm := down d.dm }, 8) else ({ d with dm := down d.dm, ar := if ch then down d.ar else d.ar }, 0) := by unfold reqD; rw [if_neg hd, if_neg (by simpa using hin'), if_neg hca]
      by_cases hm : d.dm = 0
      · have hr : reqD d s ch = ({ d with dm := down d.dm }, 8) := by rw [hr0, if_pos hm]
        have hmd : decide (d.dm = 0) = true := decide_eq_true hm
        rw [hmd] at HD
        unfold PostRq
        rw [hr]
        clear HW HE hr hr0 hmd hm
        generalize down d.dm = y at *
        cases ch with
        | true =>
          have har : (d.ar == 0) = false := beq_eq_false_iff_ne.2 fun h0 => hca ⟨rfl, h0⟩
          clear hca
          go_enter Tryd.func60, Tryd.ntmps60
          go_wp2_with (first | (go_at_call 49; (with_reducible refine (HL.out _ (by (try show Ex _ _); with_reducible repeat (first | exact ex_refl _ | assumption | refine ex_drewL ?_ | refine ex_appR ?_ _ | refine ex_wx ?_ _ | refine ex_drew ?_ | refine ex_alloc ?_ _))).mono ?_); rintro e w2 ⟨rfl, X, rfl⟩) | (go_at_call 76; (with_reducible refine (HD.out _).mono ?_); rintro e w3 ⟨rfl, X3, rfl⟩))
          go_ret
          exact Or.inl ⟨by decide, rfl, ⟨_, (hM.out.setDm l1 l2).ex (by (try show Ex _ _); with_reducible repeat (first | exact ex_refl _ | assumption | refine ex_drewL ?_ | refine ex_appR ?_ _ | refine ex_wx ?_ _ | refine ex_drew ?_ | refine ex_alloc ?_ _))⟩, ((Dv.refl _ _).setP 3 _).grow (by (try show Ex _ _); with_reducible repeat (first | exact ex_refl _ | assumption | refine ex_drewL ?_ | refine ex_appR ?_ _ | refine ex_wx ?_ _ | refine ex_drew ?_ | refine ex_alloc ?_ _))⟩
        | false =>
          clear hca
          go_enter Tryd.func60, Tryd.ntmps60
          go_wp2_with (first | (go_at_call 49; (with_reducible refine (HL.out _ (by (try show Ex _ _); with_reducible repeat (first | exact ex_refl _ | assumption | refine ex_drewL ?_ | refine ex_appR ?_ _ | refine ex_wx ?_ _ | refine ex_drew ?_ | refine ex_alloc ?_ _))).mono ?_); rintro e w2 ⟨rfl, X, rfl⟩) | (go_at_call 76; (with_reducible refine (HD.out _).mono ?_); rintro e w3 ⟨rfl, X3, rfl⟩))
          go_ret
          exact Or.inl ⟨by decide, rfl, ⟨_, (hM.out.setDm l1 l2).ex (by (try show Ex _ _); with_reducible repeat (first | exact ex_refl _ | assumption | refine ex_drewL ?_ | refine ex_appR ?_ _ | refine ex_wx ?_ _ | refine ex_drew ?_ | refine ex_alloc ?_ _))⟩, ((Dv.refl _ _).setP 3 _).grow (by (try show Ex _ _); with_reducible repeat (first | exact ex_refl _ | assumption | refine ex_drewL ?_ | refine ex_appR ?_ _ | refine ex_wx ?_ _ | refine ex_drew ?_ | refine ex_alloc ?_ _))⟩
      · have hr : reqD d s ch = ({ d with dm := down d.dm, ar := if ch then down d.ar else d.ar }, 0) := by rw [hr0, if_neg hm]
        have hmd : decide (d.dm = 0) = false := decide_eq_false hm
        rw [hmd] at HD
        unfold PostRq
        rw [hr] at HW ⊢
        have HW := Lib.hid (HW rfl)
        have HE := Lib.hid HE
        clear hr hr0 hmd hm
        generalize down d.dm = y at *
        cases ch with
        | true =>
          have har : (d.ar == 0) = false := beq_eq_false_iff_ne.2 fun h0 => hca ⟨rfl, h0⟩
          clear hca
          simp only [if_true] at HW
          generalize down d.ar = z at *
          have HW2 := Lib.hid (fun (X : More) => HW.out (wx ((w.setCell ⟨L.p, 3, none⟩ (I y)).setCell ⟨L.p, 2, none⟩ (I z)) X) ⟨_, ((hM.out.setDm l1 l2).setAr l3 l4).ex ⟨X, rfl⟩⟩ ((((Dv.refl _ _).setP 3 _).setP 2 _).grow ⟨X, rfl⟩))
          go_enter Tryd.func60, Tryd.ntmps60
          go_wp2_with (first | (go_at_call 49; (with_reducible refine (HL.out _ (by (try show Ex _ _); with_reducible repeat (first | exact ex_refl _ | assumption | refine ex_drewL ?_ | refine ex_appR ?_ _ | refine ex_wx ?_ _ | refine ex_drew ?_ | refine ex_alloc ?_ _))).mono ?_); rintro e w2 ⟨rfl, X, rfl⟩) | (go_at_call 76; (with_reducible refine (HD.out _).mono ?_); clear HD; rintro e w3 ⟨rfl, X3, rfl⟩) | (go_at_call 76; (with_reducible refine (HA.out _).mono ?_); clear HA; rintro e w4 ⟨rfl, X4, rfl⟩) | (go_at_call 61; (with_reducible refine (HW2.out _).mono ?_); rintro e w5 ⟨rfl, hE⟩; obtain ⟨k5, g5, z5⟩ := HE.out w5 hE; replace hE := Lib.hid hE))
          go_ret
          exact ⟨rfl, _, hE.out, rfl⟩
        | false =>
          clear hca
          simp only [Bool.false_eq_true, if_false] at HW
          have HW2 := Lib.hid (fun (X : More) => HW.out (wx (w.setCell ⟨L.p, 3, none⟩ (I y)) X) ⟨_, (hM.out.setDm l1 l2).ex ⟨X, rfl⟩⟩ (((Dv.refl _ _).setP 3 _).grow ⟨X, rfl⟩))
          go_enter Tryd.func60, Tryd.ntmps60
          go_wp2_with (first | (go_at_call 49; (with_reducible refine (HL.out _ (by (try show Ex _ _); with_reducible repeat (first | exact ex_refl _ | assumption | refine ex_drewL ?_ | refine ex_appR ?_ _ | refine ex_wx ?_ _ | refine ex_drew ?_ | refine ex_alloc ?_ _))).mono ?_); rintro e w2 ⟨rfl, X, rfl⟩) | (go_at_call 76; (with_reducible refine (HD.out _).mono ?_); clear HD; rintro e w3 ⟨rfl, X3, rfl⟩) | (go_at_call 61; (with_reducible refine (HW2.out _).mono ?_); rintro e w5 ⟨rfl, hE⟩; obtain ⟨k5, g5, z5⟩ := HE.out w5 hE; replace hE := Lib.hid hE))
          go_ret
          exact ⟨rfl, _, hE.out, rfl⟩
  · have hr : reqD d s ch = (d, 2) := by unfold reqD; rw [if_neg hd, if_pos (by simpa using hin)]
    unfold PostRq
    rw [hr]
    clear HW HE hr
    have hul : IntKind.u64.wrap (d.has.length : Int) = (d.has.length : Int) := by rw [IntKind.wrap_u64]; omega
    obtain ⟨u, hu, hge⟩ : ∃ u, IntKind.u64.wrap s = u ∧ (d.has.length : Int) ≤ u := ⟨_, rfl, by rw [IntKind.wrap_u64]; omega⟩
    go_enter Tryd.func60, Tryd.ntmps60
    go_wp2_with (go_at_call 49; (with_reducible refine (HL.out _ (by (try show Ex _ _); with_reducible repeat (first | exact ex_refl _ | assumption | refine ex_drewL ?_ | refine ex_appR ?_ _ | refine ex_wx ?_ _ | refine ex_drew ?_ | refine ex_alloc ?_ _))).mono ?_); rintro e w2 ⟨rfl, X, rfl⟩)
    go_ret
    exact Or.inl ⟨by decide, rfl, ⟨_, hM.out.ex (by (try show Ex _ _); with_reducible repeat (first | exact ex_refl _ | assumption | refine ex_drewL ?_ | refine ex_appR ?_ _ | refine ex_wx ?_ _ | refine ex_drew ?_ | refine ex_alloc ?_ _))⟩, Dv.ofEx (by (try show Ex _ _); with_reducible repeat (first | exact ex_refl _ | assumption | refine ex_drewL ?_ | refine ex_appR ?_ _ | refine ex_wx ?_ _ | refine ex_drew ?_ | refine ex_alloc ?_ _))⟩
end Go.Proofs.YtabjamkkhlbajaaDoor

/- Disks: what is asked without a request; the nil disk. -/
set_option linter.unusedSimpArgs false
set_option linter.unusedVariables false
set_option maxRecDepth 20000
namespace Go.Proofs.YtabjamkkhlbajaaDoor
open Go.RowKit
theorem len_any {w : World} {L : Loc} {d : Dk} (h : DkAt w L d) : Calls Tryd.prog 55 #[PT L.p] w (Post w (I (d.has.length : Nat))) := by
  obtain ⟨qv, h⟩ := h.out
  obtain ⟨⟨c0, c1, c2, c3, c4, c5⟩, hf, hz⟩ := h.cells
  clear h
  go_enter Tryd.func55, Tryd.ntmps55
  go_wp2
  go_ret
  exact post_mk' rfl (by (try show Ex _ _); with_reducible repeat (first | exact ex_refl _ | assumption | refine ex_drewL ?_ | refine ex_appR ?_ _ | refine ex_wx ?_ _ | refine ex_drew ?_ | refine ex_alloc ?_ _))
theorem arm_any {w : World} {L : Loc} {d : Dk} (h : DkAt w L d) (n : Int) (hn : n < 9223372036854775808) : Calls Tryd.prog 30 #[PT L.p, I n] w (PostD w L (armD d n).1 (I (armD d n).2)) := by
  have HL := Lib.hid (fun W (k : Ex w W) => lit_any (h.ex k))
  obtain ⟨qv, hM⟩ := h.out
  obtain ⟨⟨c0, c1, c2, c3, c4, c5⟩, hf, hz⟩ := hM.cells
  have f2 := hf 2
  have f3 := hf 3
  unfold litD at HL
  unfold armD
  replace hM := Lib.hid hM
  clear h hf
  by_cases hd : d.dark = true
  · rw [if_pos hd]
    simp only [hd, if_true] at HL
    go_enter Tryd.func30, Tryd.ntmps30
    go_wp2_with (go_at_call 49; (with_reducible refine (HL.out _ (by (try show Ex _ _); with_reducible repeat (first | exact ex_refl _ | assumption | refine ex_drewL ?_ | refine ex_appR ?_ _ | refine ex_wx ?_ _ | refine ex_drew ?_ | refine ex_alloc ?_ _))).mono ?_); rintro e w2 ⟨rfl, X, rfl⟩)
    go_ret
    exact ⟨_, rfl, ⟨_, hM.out.ex (by (try show Ex _ _); with_reducible repeat (first | exact ex_refl _ | assumption | refine ex_drewL ?_ | refine ex_appR ?_ _ | refine ex_wx ?_ _ | refine ex_drew ?_ | refine ex_alloc ?_ _))⟩, Dv.ofEx (by (try show Ex _ _); with_reducible repeat (first | exact ex_refl _ | assumption | refine ex_drewL ?_ | refine ex_appR ?_ _ | refine ex_wx ?_ _ | refine ex_drew ?_ | refine ex_alloc ?_ _))⟩
  · rw [if_neg hd]
    simp only [hd, if_false] at HL
    have hm1 : -1 ≤ max n (-1) := by omega
    have hm2 : max n (-1) < 9223372036854775808 := by omega
    obtain ⟨m, hm⟩ : ∃ m, max n (-1) = m := ⟨_, rfl⟩
    rw [hm] at hm1 hm2 ⊢
    have hmm : (if n < -1 then (-1 : Int) else n) = m := by rw [← hm]; split <;> omega
    have hmm2 : (if (-1 : Int) < n then n else -1) = m := by rw [← hm]; split <;> omega
    go_enter Tryd.func30, Tryd.ntmps30
    go_wp2_with (go_at_call 49; (with_reducible refine (HL.out _ (by (try show Ex _ _); with_reducible repeat (first | exact ex_refl _ | assumption | refine ex_drewL ?_ | refine ex_appR ?_ _ | refine ex_wx ?_ _ | refine ex_drew ?_ | refine ex_alloc ?_ _))).mono ?_); rintro e w2 ⟨rfl, X, rfl⟩)
    go_ret
    exact ⟨_, rfl, ⟨_, (hM.out.setAr hm1 hm2).ex (by (try show Ex _ _); with_reducible repeat (first | exact ex_refl _ | assumption | refine ex_drewL ?_ | refine ex_appR ?_ _ | refine ex_wx ?_ _ | refine ex_drew ?_ | refine ex_alloc ?_ _))⟩, ((Dv.refl _ _).setP 2 _).grow (by (try show Ex _ _); with_reducible repeat (first | exact ex_refl _ | assumption | refine ex_drewL ?_ | refine ex_appR ?_ _ | refine ex_wx ?_ _ | refine ex_drew ?_ | refine ex_alloc ?_ _))⟩
theorem fail_any {w : World} {L : Loc} {d : Dk} (h : DkAt w L d) (n : Int) (hn : n < 9223372036854775808) : Calls Tryd.prog 27 #[PT L.p, I n] w (PostD w L (failD d n).1 (I (failD d n).2)) := by
  have HL := Lib.hid (fun W (k : Ex w W) => lit_any (h.ex k))
  obtain ⟨qv, hM⟩ := h.out
  obtain ⟨⟨c0, c1, c2, c3, c4, c5⟩, hf, hz⟩ := hM.cells
  have f2 := hf 2
  have f3 := hf 3
  unfold litD at HL
  unfold failD
  replace hM := Lib.hid hM
  clear h hf
  by_cases hd : d.dark = true
  · rw [if_pos hd]
    simp only [hd, if_true] at HL
    go_enter Tryd.func27, Tryd.ntmps27
    go_wp2_with (go_at_call 49; (with_reducible refine (HL.out _ (by (try show Ex _ _); with_reducible repeat (first | exact ex_refl _ | assumption | refine ex_drewL ?_ | refine ex_appR ?_ _ | refine ex_wx ?_ _ | refine ex_drew ?_ | refine ex_alloc ?_ _))).mono ?_); rintro e w2 ⟨rfl, X, rfl⟩)
    go_ret
    exact ⟨_, rfl, ⟨_, hM.out.ex (by (try show Ex _ _); with_reducible repeat (first | exact ex_refl _ | assumption | refine ex_drewL ?_ | refine ex_appR ?_ _ | refine ex_wx ?_ _ | refine ex_drew ?_ | refine ex_alloc ?_ _))⟩, Dv.ofEx (by (try show Ex _ _); with_reducible repeat (first | exact ex_refl _ | assumption | refine ex_drewL ?_ | refine ex_appR ?_ _ | refine ex_wx ?_ _ | refine ex_drew ?_ | refine ex_alloc ?_ _))⟩
  · rw [if_neg hd]
    simp only [hd, if_false] at HL
    have hm1 : -1 ≤ max n (-1) := by omega
    have hm2 : max n (-1) < 9223372036854775808 := by omega
    obtain ⟨m, hm⟩ : ∃ m, max n (-1) = m := ⟨_, rfl⟩
    rw [hm] at hm1 hm2 ⊢
    have hmm : (if n < -1 then (-1 : Int) else n) = m := by rw [← hm]; split <;> omega
    have hmm2 : (if (-1 : Int) < n then n else -1) = m := by rw [← hm]; split <;> omega
    go_enter Tryd.func27, Tryd.ntmps27
    go_wp2_with (go_at_call 49; (with_reducible refine (HL.out _ (by (try show Ex _ _); with_reducible repeat (first | exact ex_refl _ | assumption | refine ex_drewL ?_ | refine ex_appR ?_ _ | refine ex_wx ?_ _ | refine ex_drew ?_ | refine ex_alloc ?_ _))).mono ?_); rintro e w2 ⟨rfl, X, rfl⟩)
    go_ret
    exact ⟨_, rfl, ⟨_, (hM.out.setDm hm1 hm2).ex (by (try show Ex _ _); with_reducible repeat (first | exact ex_refl _ | assumption | refine ex_drewL ?_ | refine ex_appR ?_ _ | refine ex_wx ?_ _ | refine ex_drew ?_ | refine ex_alloc ?_ _))⟩, ((Dv.refl _ _).setP 3 _).grow (by (try show Ex _ _); with_reducible repeat (first | exact ex_refl _ | assumption | refine ex_drewL ?_ | refine ex_appR ?_ _ | refine ex_wx ?_ _ | refine ex_drew ?_ | refine ex_alloc ?_ _))⟩
end Go.Proofs.YtabjamkkhlbajaaDoor

/- The queue of a disk, gone over from its end. -/
set_option linter.unusedSimpArgs false
set_option linter.unusedVariables false
set_option maxRecDepth 20000
namespace Go.Proofs.YtabjamkkhlbajaaDoor
open Go.RowKit
attribute [local go_sem] Oper.semAt_some
theorem calls_of_marks {P : Program} {f : FuncId} {fn : Func} {c : Code} {args : Array Value} {w : World} {R : Ending → World → Prop} (hf : P.funcs[f]? = some fn) (hb : fn.body = some c)
    (h : c.wp P (bodyPostM Fence.wide 3 P fn R) { tmps := args ++ Array.replicate (fn.ntmps - args.size) undef, defers := [] } w) : Calls P f args w R :=
  (callsIn_wide (n := 3)).1 (callsIn_of_wp_marks hf hb trivial (wpIn_wide.2 h) rfl)
/-- From the end: the place, the write. -/
def lastF (l : List Pt) (j : Nat) : Nat × Pt := (l.length - 1 - j, l.getD (l.length - 1 - j) (0, zeroB))
def uptoL {α : Type} (f : Nat → α) (k : Nat) : List α := (List.range k).map f
theorem uptoL_succ {α : Type} (f : Nat → α) (k : Nat) : uptoL f (k + 1) = uptoL f k ++ [f k] := by simp [uptoL, List.range_succ]
theorem uptoL_len {α : Type} (f : Nat → α) (k : Nat) : (uptoL f k).length = k := by simp [uptoL]
def encQ (x : Nat × Pt) : Array Value := #[I (x.1 : Nat), .agg (KQ x.2).toArray]
/-- What a round keeps: what lay below a height, and one box. -/
def KpQ (Z bd : Nat) (W W' : World) : Prop := Frm (fun b => Z ≤ b ∧ b ≠ bd) W W'
theorem kpQ_b {Z bd : Nat} {w : World} (hz : Z ≤ w.heap.size) (hb : bd < w.heap.size) (W : World) (l : Nat) (o o' : Obj) (hl : w.heap.size ≤ l) (h : W.heap[l]? = some o) (_ : o.isCells = false) (_ : o.isWalk = false) : KpQ Z bd W (W.putObj l o') := by
  have hg := grownBy_putObj' W l o'
  exact ⟨hg.os, hg.tape, hg.output, hg.size, fun b hb2 hn => hg.block b hb2 fun e => hn (by cases e; omega)⟩
set_option maxRecDepth 100000 in
set_option maxHeartbeats 2000000 in
theorem last1_in (n : Nat) (hn : 1 ≤ n) (l bd Z : Nat) (L : Loc) (d : Dk) (qv : Value) (J Jx : List (Nat × Pt) → World → Prop)
    (hY : ∀ pre x W, J pre W → pre.length < d.qu.length → YieldAt Fence.wide (n - 1) Tryd.prog l (encQ x) W fun e W' =>
      (e = .returned (.bool true) ∧ J (pre ++ [x]) W' ∧ KpQ Z bd W W') ∨ (e = .returned (.bool false) ∧ Jx (pre ++ [x]) W'))
    (W : World) (hM : DkM W L d qv) (hZ : ∀ b, L.own b → b < Z) (hbd : W.heap[bd]? = some (.cells #[PT L.p] 38 (0, 0))) (h0 : J [] W) :
    CallsIn Fence.wide n Tryd.prog 72 #[.func (.yield l) #[] #[], PT bd] W fun e W' => (∃ v, e = .returned v) ∧
      ((∃ ys, ys = uptoL (lastF d.qu) d.qu.length ∧ J ys W') ∨ (∃ pre, (∃ k, k ≤ d.qu.length ∧ pre = uptoL (lastF d.qu) k) ∧ Jx pre W')) := by
  have hbz := (Array.getElem?_eq_some_iff.1 hbd).1
  have hq1 := hM.ok.qn
  obtain ⟨qa, qc, hqv, k1, k2, k3⟩ : ∃ a c, qv = .slice a d.qu.length c ∧ d.qu.length ≤ c ∧ c ≤ maxLen ∧ (a = none → c = 0) := by
    rcases hM.bq.2 with ⟨rfl, h0⟩ | ⟨g, cap, cur, rfl, h1, h2, h3, h4, h5, h6⟩
    · exact ⟨none, 0, by rw [h0], by omega, by decide, fun _ => rfl⟩
    · exact ⟨_, cap, rfl, h3, h4, fun h => by cases h⟩
  have HMW : Hid (∀ wr, KpQ Z bd W wr → DkM wr L d qv ∧ wr.heap[bd]? = some (.cells #[PT L.p] 38 (0, 0))) := Lib.hid fun wr k =>
    ⟨hM.keep fun b hb => k.same b (hM.lt hb) fun h => by have := hZ b hb; omega, (k.same bd hbz fun h => h.2 rfl).trans hbd⟩
  subst hqv
  clear hM hbd
  refine callsIn_of_wp Tryd.func72 rfl trivial ?_ rfl
  simp only [Tryd.ntmps72, List.size_toArray, List.length_cons, List.length_nil, Nat.reduceAdd, Nat.reduceSub, Array.replicate_succ, Array.replicate_zero, List.push_toArray, List.append_toArray, List.nil_append, List.cons_append]
  have hW := HMW.out W (Frm.refl _ _)
  have hb0 := (block_cell (o := 0) (v := PT L.p) hW.2 rfl).1
  obtain ⟨⟨c0, c1, c2, c3, c4, c5⟩, hf, hz⟩ := hW.1.cells
  clear hW hf c0 c2 c3 c4 c5
  gi_wp2
  clear hb0 c1 hz
  gi_loopw [3] (fun i wr => ∃ j : Nat, j ≤ d.qu.length ∧ i = .int .i64 ((d.qu.length : Int) - 1 - j) ∧ J (uptoL (lastF d.qu) j) wr ∧ Hid (KpQ Z bd W wr)) (fun i _ => (intOf i + 1).toNat)
  case atStart => exact ⟨0, Nat.zero_le _, by simp, h0, Lib.hid (Frm.refl _ _)⟩
  case round =>
    obtain ⟨j, hj, rfl, hJs, hk⟩ := hrel
    have hW := HMW.out wr hk.out
    have hb0 := (block_cell (o := 0) (v := PT L.p) hW.2 rfl).1
    obtain ⟨⟨c0, c1, c2, c3, c4, c5⟩, hf, hz⟩ := hW.1.cells
    have hbq := hW.1.bq
    clear hW hf c0 c2 c3 c4 c5
    by_cases hlt : j < d.qu.length
    · have hyp := hY (uptoL (lastF d.qu) j) (lastF d.qu j) wr hJs (by rw [uptoL_len]; exact hlt)
      obtain ⟨x, hx⟩ : ∃ x, d.qu[d.qu.length - 1 - j]? = some x := ⟨_, List.getElem?_eq_getElem (by omega)⟩
      have hlx : lastF d.qu j = (d.qu.length - 1 - j, x) := by unfold lastF; rw [List.getD_eq_getElem?_getD, hx]; rfl
      rw [hlx] at hyp
      obtain ⟨g, cap, cur, hv, _⟩ := own_block hbq (by omega) (by omega)
      obtain ⟨rfl, rfl⟩ : qa = some ⟨g, 0, none⟩ ∧ qc = cap := by simpa using hv
      have hcx := (own_at KQ_len hbq hx).1
      have e1 : ((d.qu.length : Int) - 1 - j) = ((d.qu.length - 1 - j : Nat) : Int) := by omega
      generalize hp : d.qu.length - 1 - j = p at *
      obtain ⟨fn, tmps, assign, body, hy, hR⟩ := hyp
      dsimp only [encQ] at hy
      have hp2 : p < d.qu.length := by omega
      have hp3 : (p : Int) < d.qu.length := by omega
      rw [e1]
      clear hv hbq
      gi_wp2
      refine hR.mono ?_
      rintro e W3 (⟨rfl, hJ3, hk3⟩ | ⟨rfl, hJx3⟩)
      · gi_wp2
        go_roundw
        case rel => exact ⟨j + 1, by omega, (by simp; try omega), by rw [uptoL_succ, hlx]; exact hJ3, Lib.hid (hk.out.trans hk3)⟩
        case measure => (simp [intOf]; try omega)
      · gi_wp2
        go_end0
        exact ⟨⟨_, rfl⟩, .inr ⟨_, ⟨j + 1, by omega, by rw [uptoL_succ, hlx]⟩, hJx3⟩⟩
    · obtain rfl : j = d.qu.length := by omega
      have e1 : ((d.qu.length : Int) - 1 - d.qu.length) = -1 := by omega
      rw [e1]
      gi_wp2
      refine ⟨fun _ h => (by cases h), ?_⟩
      gi_wp2
      go_end0
      exact ⟨⟨_, rfl⟩, .inl ⟨_, rfl, hJs⟩⟩
/-- d.last(): the receiver is boxed; the closure captures the box. -/
theorem last_any (p : Nat) (w : World) : Calls Tryd.prog 51 #[PT p] w fun e w' => e = .returned (.func (.func 72) #[] #[PT w.heap.size]) ∧ w' = w.alloc (.cells #[PT p] 38) := by
  go_enter Tryd.func51, Tryd.ntmps51
  go_wp2
  go_ret
  exact ⟨rfl, rfl⟩
theorem last_stops (n : Nat) (hn : 1 ≤ n) (bd Z : Nat) (L : Loc) (d : Dk) (qv : Value) (w : World) (hM : DkM w L d qv) (hZ : ∀ b, L.own b → b < Z) (hbd : w.heap[bd]? = some (.cells #[PT L.p] 38 (0, 0))) :
    SeqStopsK Fence.wide n Tryd.prog 72 #[PT bd] encQ (KpQ Z bd) (fun ys => ys = uptoL (lastF d.qu) d.qu.length) (fun pre => ∃ k, k ≤ d.qu.length ∧ pre = uptoL (lastF d.qu) k) d.qu.length w := fun l J Jx W hW _ _ hY h0 => by
  have hk : Ex w W := ex_of_below hW
  exact last1_in n hn l bd Z L d qv J Jx hY W (hM.ex hk) hZ (ex_block hk hbd) h0
end Go.Proofs.YtabjamkkhlbajaaDoor
