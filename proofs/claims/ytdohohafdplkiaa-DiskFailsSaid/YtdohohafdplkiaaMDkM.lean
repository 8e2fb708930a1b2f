import Derived.Test.YtdohohafdplkiaaMDkS
import Derived.Test.YtdohohafdplkiaaMSlR
import Derived.Test.YtdohohafdplkiaaMRng
import Derived.Test.YtdohohafdplkiaaMTypesK

/- Disks in memory: what is known of one, what a turn of one keeps. -/
set_option linter.unusedSimpArgs false
set_option linter.unusedVariables false
set_option maxRecDepth 20000
namespace Go.Proofs.Ytdohohafdplkiaa
open Go.RowKit
abbrev PT (b : Nat) : Value := .pointer (some ⟨b, 0, none⟩)
def KK (b : Bk) : List Value := (rowB 64 (bkF b)).toList
theorem KK_len (b : Bk) : (KK b).length = 64 := by simp [KK]
@[go_sem] theorem KK_back (b : Bk) : (KK b).toArray = rowB 64 (bkF b) := by simp [KK]
def KQ (p : Pt) : List Value := I p.1 :: KK p.2
theorem KQ_len (p : Pt) : (KQ p).length = 65 := by simp [KQ, KK_len]
theorem KK_one (l : List Bk) : ∀ u ∈ l.flatMap KK, u.oneCell' = true := by
  intro u hu
  simp only [List.mem_flatMap] at hu
  obtain ⟨d, _, hd⟩ := hu
  exact Array.all_eq_true_iff_forall_mem.1 (rowB_one 64 (bkF d)) u (by unfold KK at hd; simpa using hd)
theorem KQ_one (l : List Pt) : ∀ u ∈ l.flatMap KQ, u.oneCell' = true := by
  intro u hu
  simp only [List.mem_flatMap] at hu
  obtain ⟨d, _, hd⟩ := hu
  unfold KQ at hd
  rcases List.mem_cons.1 hd with rfl | hd
  · rfl
  · exact KK_one [d.2] u (by simpa using hd)
/-- Where a disk lies. -/
structure Loc where
  p : Nat
  h : Nat
  q : Option Nat
def Loc.own (L : Loc) (b : Nat) : Prop := b = L.p ∨ b = L.h ∨ L.q = some b
/-- All but a disk's own blocks is kept; its own blocks then. -/
structure Dv (L : Loc) (w : World) (L' : Loc) (w' : World) : Prop where
  os : w'.os = w.os
  tape : w'.tape = w.tape
  output : w'.output = w.output
  size : w.heap.size ≤ w'.heap.size
  same : ∀ b, b < w.heap.size → ¬ L.own b → w'.heap[b]? = w.heap[b]?
  pp : L'.p = L.p
  hh : L'.h = L.h
  qq : ∀ g, L'.q = some g → L.q = some g ∨ w.heap.size ≤ g
theorem Dv.own {L L' : Loc} {w w' : World} (h : Dv L w L' w') {b : Nat} (hb : L'.own b) : L.own b ∨ w.heap.size ≤ b := by
  rcases hb with rfl | rfl | hb
  · exact Or.inl (Or.inl h.pp)
  · exact Or.inl (Or.inr (Or.inl h.hh))
  · rcases h.qq _ hb with h1 | h1
    · exact Or.inl (Or.inr (Or.inr h1))
    · exact Or.inr h1
theorem Dv.refl (L : Loc) (w : World) : Dv L w L w := ⟨rfl, rfl, rfl, Nat.le_refl _, fun _ _ _ => rfl, rfl, rfl, fun _ h => Or.inl h⟩
theorem Dv.trans {L1 L2 L3 : Loc} {a b c : World} (h : Dv L1 a L2 b) (k : Dv L2 b L3 c) : Dv L1 a L3 c := by
  refine ⟨k.os.trans h.os, k.tape.trans h.tape, k.output.trans h.output, Nat.le_trans h.size k.size, fun i hi ho => ?_, k.pp.trans h.pp, k.hh.trans h.hh, fun g hg => ?_⟩
  · rw [k.same i (Nat.lt_of_lt_of_le hi h.size) fun e => ?_, h.same i hi ho]
    rcases h.own e with h1 | h1
    · exact ho h1
    · omega
  · rcases k.qq g hg with h1 | h1
    · exact h.qq g h1
    · exact Or.inr (Nat.le_trans h.size h1)
theorem Dv.ofEx {L : Loc} {w w' : World} (k : Ex w w') : Dv L w L w' := by
  have hb := ex_below k
  exact ⟨hb.os, hb.tape, hb.output, hb.size, fun b h1 _ => hb.block b h1, rfl, rfl, fun _ h => Or.inl h⟩
theorem Dv.grow {L L' : Loc} {a b c : World} (h : Dv L a L' b) (k : Ex b c) : Dv L a L' c := h.trans (Dv.ofEx k)
theorem Dv.set {L L' : Loc} {w w' : World} (h : Dv L w L' w') {b : Nat} (hb : L'.own b) (o : Nat) (v : Value) : Dv L w L' (w'.setCell ⟨b, o, none⟩ v) :=
  h.trans ⟨rfl, rfl, rfl, by simp [World.setCell], fun k _ hk => setCell_heap v (fun e => hk (by rw [e]; exact hb)), rfl, rfl, fun _ h => Or.inl h⟩
theorem Dv.sets {L L' : Loc} {w w' : World} (h : Dv L w L' w') {b : Nat} (hb : L'.own b) (o : Nat) (vs : List Value) : Dv L w L' (w'.setCells b o vs) := by
  obtain ⟨h1, h2, h3⟩ := setCells_os b vs o w'
  exact h.trans ⟨h1, h2, h3, by rw [setCells_size]; exact Nat.le_refl _, fun k _ hk => setCells_heap _ _ _ _ _ (fun e => hk (by rw [e]; exact hb)), rfl, rfl, fun _ h => Or.inl h⟩
theorem Dv.below {L L' : Loc} {w w' : World} (h : Dv L w L' w') {Z : Nat} (hZ : Z ≤ w.heap.size) (ho : ∀ b, L.own b → Z ≤ b) : Below Z w w' :=
  ⟨h.os, h.tape, h.output, h.size, fun b hb => h.same b (by omega) fun e => by have := ho b e; omega⟩
/-- A disk in memory. -/
structure DkM (w : World) (L : Loc) (d : Dk) (qv : Value) : Prop where
  bp : w.heap[L.p]? = some (.cells #[.slice (some ⟨L.h, 0, none⟩) d.has.length d.has.length, qv, I d.ar, I d.dm, .bool d.dark, I (d.ops : Nat)] 70 (0, 0))
  bh : w.ownsRow 0 39 64 (.slice (some ⟨L.h, 0, none⟩) d.has.length d.has.length) d.has.length (d.has.flatMap KK)
  bq : w.ownsRow 0 87 65 qv d.qu.length (d.qu.flatMap KQ)
  qb : qv.ownBlock = L.q
  ph : L.p ≠ L.h
  pq : L.q ≠ some L.p
  hq : L.q ≠ some L.h
  ok : DkOk d
section
variable {w w' : World} {L : Loc} {d : Dk} {qv : Value}
theorem DkM.lt (h : DkM w L d qv) {b : Nat} (hb : L.own b) : b < w.heap.size := by
  rcases hb with rfl | rfl | hb
  · exact (Array.getElem?_eq_some_iff.1 h.bp).1
  · exact (h.bh.lt L.h rfl).2
  · exact (h.bq.lt b (h.qb.trans hb)).2
/-- Whatever leaves its own blocks alone. -/
theorem owns_same {w w' : World} {Z : Nat} {t : TypeId} {s : Nat} {v : Value} {n : Nat} {xs : List Value} (h : w.ownsRow Z t s v n xs) (k : ∀ b, v.ownBlock = some b → w'.heap[b]? = w.heap[b]?) : w'.ownsRow Z t s v n xs := by
  refine ⟨h.1, ?_⟩
  rcases h.2 with h0 | ⟨g, cap, cur, rfl, h1, h2, h3⟩
  · exact Or.inl h0
  · exact Or.inr ⟨g, cap, cur, rfl, h1, (k g rfl).trans h2, h3⟩
theorem DkM.keep (h : DkM w L d qv) (k : ∀ b, L.own b → w'.heap[b]? = w.heap[b]?) : DkM w' L d qv :=
  { h with bp := (k _ (Or.inl rfl)).trans h.bp, bh := owns_same h.bh fun b hb => k b (Or.inr (Or.inl (Option.some.inj hb).symm)), bq := owns_same h.bq fun b hb => k b (Or.inr (Or.inr (h.qb.symm.trans hb))) }
theorem DkM.ex (h : DkM w L d qv) (k : Ex w w') : DkM w' L d qv := h.keep fun b hb => (ex_below k).block b (h.lt hb)
/-- Behind what another disk did. -/
theorem DkM.apart {L2 L2' : Loc} (h : DkM w L d qv) (k : Dv L2 w L2' w') (ha : ∀ b, L.own b → ¬ L2.own b) : DkM w' L d qv := h.keep fun b hb => k.same b (h.lt hb) (ha b hb)
theorem DkM.cells (h : DkM w L d qv) : (w.cell? ⟨L.p, 0, none⟩ = some (.slice (some ⟨L.h, 0, none⟩) d.has.length d.has.length) ∧ w.cell? ⟨L.p, 1, none⟩ = some qv ∧ w.cell? ⟨L.p, 2, none⟩ = some (I d.ar) ∧ w.cell? ⟨L.p, 3, none⟩ = some (I d.dm) ∧ w.cell? ⟨L.p, 4, none⟩ = some (.bool d.dark) ∧ w.cell? ⟨L.p, 5, none⟩ = some (I (d.ops : Nat))) ∧
    (∀ o, w.frozen? ⟨L.p, o, none⟩ = false) ∧ L.p < w.heap.size := by
  have hc : ∀ o v, (#[.slice (some ⟨L.h, 0, none⟩) d.has.length d.has.length, qv, I d.ar, I d.dm, .bool d.dark, I (d.ops : Nat)] : Array Value)[o]? = some v → w.cell? ⟨L.p, o, none⟩ = some v := fun o v hv => by
    rw [cell_of_row w L.p o _ _ _ h.bp, hv]
  exact ⟨⟨hc 0 _ rfl, hc 1 _ rfl, hc 2 _ rfl, hc 3 _ rfl, hc 4 _ rfl, hc 5 _ rfl⟩, fun o => by simp [World.frozen?, h.bp], h.lt (Or.inl rfl)⟩
/-- A field that is turned. -/
theorem DkM.turn (h : DkM w L d qv) {o : Nat} {x : Value} {d' : Dk} (hs : d'.has = d.has) (hq : d'.qu = d.qu) (ok : DkOk d')
    (he : (#[.slice (some ⟨L.h, 0, none⟩) d.has.length d.has.length, qv, I d.ar, I d.dm, .bool d.dark, I (d.ops : Nat)] : Array Value).setIfInBounds o x = #[.slice (some ⟨L.h, 0, none⟩) d.has.length d.has.length, qv, I d'.ar, I d'.dm, .bool d'.dark, I (d'.ops : Nat)]) : DkM (w.setCell ⟨L.p, o, none⟩ x) L d' qv := by
  have hk : ∀ b, L.own b → b ≠ L.p → (w.setCell ⟨L.p, o, none⟩ x).heap[b]? = w.heap[b]? := fun b _ hb => setCell_heap x hb
  refine ⟨?_, ?_, ?_, h.qb, h.ph, h.pq, h.hq, ok⟩
  · rw [setCell_block _ h.bp, he, hs]
  · rw [hs]; exact owns_same h.bh fun b hb => hk b (Or.inr (Or.inl (Option.some.inj hb).symm)) (by rw [← Option.some.inj hb]; exact Ne.symm h.ph)
  · rw [hq]; exact owns_same h.bq fun b hb => hk b (Or.inr (Or.inr (h.qb.symm.trans hb))) (by rintro rfl; exact h.pq (h.qb.symm.trans hb))
end
/-- A disk in memory, its queue's slice whichever. -/
structure DkAt (w : World) (L : Loc) (d : Dk) : Prop where
  out : ∃ qv, DkM w L d qv
theorem DkAt.ex {w w' : World} {L : Loc} {d : Dk} (h : DkAt w L d) (k : Ex w w') : DkAt w' L d := by
  obtain ⟨qv, h⟩ := h.out
  exact ⟨qv, h.ex k⟩
theorem DkAt.ok {w : World} {L : Loc} {d : Dk} (h : DkAt w L d) : DkOk d := by
  obtain ⟨qv, h⟩ := h.out
  exact h.ok
theorem DkAt.lt {w : World} {L : Loc} {d : Dk} (h : DkAt w L d) {b : Nat} (hb : L.own b) : b < w.heap.size := by
  obtain ⟨qv, h⟩ := h.out
  exact h.lt hb
theorem DkAt.apart {w w' : World} {L : Loc} {d : Dk} {L2 L2' : Loc} (h : DkAt w L d) (k : Dv L2 w L2' w') (ha : ∀ b, L.own b → ¬ L2.own b) : DkAt w' L d := by
  obtain ⟨qv, h⟩ := h.out
  exact ⟨qv, h.apart k ha⟩
/-- What turned a disk. -/
def PostD (w : World) (L : Loc) (d' : Dk) (v : Value) (e : Ending) (w' : World) : Prop := ∃ L', e = .returned v ∧ DkAt w' L' d' ∧ Dv L w L' w'
end Go.Proofs.Ytdohohafdplkiaa
