import Derived.Test.YtdohohafdplkiaaMDkDn

/- A disk of the call's own beside the document's. -/
set_option linter.unusedSimpArgs false
set_option linter.unusedVariables false
set_option maxRecDepth 20000
namespace Go.Proofs.Ytdohohafdplkiaa
open Go.RowKit
/-- A disk behind a pointer, and a block that holds the document's. -/
structure St1 (F : Nat → Prop) (w W : World) (p b : Nat) (d dm : Dk) : Prop where
  ex : Ex w W
  fl : ∀ g, F g → g < w.heap.size
  out : ∃ (L : Loc) (hv qv : Value) (N : Nat → Prop), L.p = p ∧ DkAt W L d ∧ (∀ c, L.own c → w.heap.size ≤ c) ∧ w.heap.size ≤ b ∧ ¬ L.own b ∧ W.heap[b]? = some (.cells (rowD hv qv dm) 32 (0, 0)) ∧ RdN N W (.agg (rowD hv qv dm)) dm ∧ ∀ g, N g → ¬ L.own g ∧ g ≠ b ∧ g < W.heap.size ∧ ¬ F g
section
variable {F : Nat → Prop} {w W W' : World} {p b : Nat} {d dm : Dk}
theorem St1.grow (h : St1 F w W p b d dm) (k : Ex W W') : St1 F w W' p b d dm := by
  obtain ⟨L, hv, qv, N, h1, h2, h3, h4, h5, h6, h7, h8⟩ := h.out
  exact ⟨ex_trans h.ex k, h.fl, L, hv, qv, N, h1, h2.ex k, h3, h4, h5, ex_block k h6, h7.ex k, fun g hg => ⟨(h8 g hg).1, (h8 g hg).2.1, Nat.lt_of_lt_of_le (h8 g hg).2.2.1 (ex_size k), (h8 g hg).2.2.2⟩⟩
theorem St1.start {W2 : World} {v : Value} (hd : DkO w W p d) (k : Ex W W2) (hv : RdN (NF (fun _ => False) W) W2 v dm) : ∃ hv qv, v = .agg (rowD hv qv dm) ∧ hv.oneCell' = true ∧ qv.oneCell' = true ∧ St1 (fun _ => False) w (W2.alloc (.cells (rowD hv qv dm) 32)) p W2.heap.size d dm := by
  have hv := hv.lt
  obtain ⟨hv', qv', e, o1, o2, _⟩ := hv.out
  obtain ⟨L, h1, h2, h3⟩ := hd.out
  have hlt := fun c (hc : L.own c) => h2.lt hc
  have hsz := ex_size k
  have kw := ex_trans hd.ex k
  refine ⟨hv', qv', e, o1, o2, ex_alloc kw _, fun _ h => h.elim, L, hv', qv', (fun g => NF (fun _ => False) W g ∧ g < W2.heap.size), h1, h2.ex (ex_alloc k _), h3, ex_size kw, fun e => by have := hlt _ e; omega, heap_alloc_new _ _, ?_, fun g hg => ⟨fun e => ?_, ?_, ?_, fun h => h⟩⟩
  · have := hv.ex (ex_alloc (ex_refl _) (.cells (rowD hv' qv' dm) 32))
    rw [e] at this
    exact this
  · have := hlt g e
    have : W.heap.size ≤ g := hg.1.elim (fun h => h.elim) id
    omega
  · have := hg.2; omega
  · have := hg.2; simp [go_sem]; omega
/-- A turn of the disk. -/
theorem St1.call {d' : Dk} {f : FuncId} {args : Array Value} {v : Value} (h : St1 F w W p b d dm) (hc : ∀ L, L.p = p → DkAt W L d → Calls Try.prog f args W (PostD W L d' v)) :
    Calls Try.prog f args W fun e w' => e = .returned v ∧ St1 F w w' p b d' dm := by
  obtain ⟨L, hv, qv, N, h1, h2, h3, h4, h5, h6, h7, h8⟩ := h.out
  refine (hc L h1 h2).mono fun e w' hh => ?_
  obtain ⟨L', rfl, k1, k2⟩ := hh
  have hz := (Array.getElem?_eq_some_iff.1 h6).1
  refine ⟨rfl, ex_of_below ((ex_below h.ex).trans (k2.below (ex_size h.ex) h3)), h.fl, L', hv, qv, N, k2.pp.trans h1, k1, fun c hc => (k2.own hc).elim (h3 c) fun e => Nat.le_trans (ex_size h.ex) e, h4, fun e => (k2.own e).elim h5 fun e => by omega, (k2.same b hz h5).trans h6, rdn_dv h7 (fun g hg => ⟨(h8 g hg).1, (h8 g hg).2.2.1⟩) k2, fun g hg => ?_⟩
  obtain ⟨g1, g2, g3, g4⟩ := h8 g hg
  exact ⟨fun e => (k2.own e).elim g1 fun e => by omega, g2, Nat.lt_of_lt_of_le g3 k2.size, g4⟩
theorem St1.ok (h : St1 F w W p b d dm) : DkOk d := by
  obtain ⟨L, hv, qv, N, h1, h2, _⟩ := h.out
  exact h2.ok
/-- The document's, asked; what is stored then. -/
theorem St1.said (h : St1 F w W p b d dm) (hok : DkOk dm) (hops : dm.ops < 1000000000) (hq : dm.qu.length < 1000000) {a : Ak} {kv : Value} (hs : SlV1 KBo 1 W kv a.keep) (hb : AkB a) :
    ∃ hv qv, W.heap[b]? = some (.cells (rowD hv qv dm) 32 (0, 0)) ∧ hv.oneCell' = true ∧ qv.oneCell' = true ∧ ∀ W', Ex W W' → Calls Try.prog 15 #[AV a kv, .agg (rowD hv qv dm)] W' fun e w' => ∃ hv2 qv2, e = .returned (.tuple #[.agg (rowD hv2 qv2 (askD a dm).1), .agg (rowB 64 (bkF (askD a dm).2.1)), I (askD a dm).2.2]) ∧ hv2.oneCell' = true ∧ qv2.oneCell' = true ∧ Ex W' w' ∧
      St1 F w (w'.setCells b 0 (rowD hv2 qv2 (askD a dm).1).toList) p b d (askD a dm).1 ∧ ∀ x vs, W.heap.size ≤ x → x < W'.heap.size → St1 F w ((w'.setCells b 0 (rowD hv2 qv2 (askD a dm).1).toList).setCells x 0 vs) p b d (askD a dm).1 := by
  obtain ⟨L, hv, qv, N, h1, h2, h3, h4, h5, h6, h7, h8⟩ := h.out
  obtain ⟨hv', qv', e, o1, o2, _⟩ := h7.out
  obtain ⟨rfl, rfl⟩ : hv = hv' ∧ qv = qv' := by unfold rowD at e; simp at e; exact ⟨e.1, e.2⟩
  refine ⟨hv, qv, h6, o1, o2, fun W' k => ?_⟩
  refine (said_any (h7.ex k) (fun g hg => Nat.lt_of_lt_of_le (h8 g hg).2.2.1 (ex_size k)) hok hops hq a (hs.ex k) hb).mono fun e w' hh => ?_
  obtain ⟨v2, rfl, hR, k'⟩ := hh
  have hR := hR.lt
  obtain ⟨hv2, qv2, rfl, p1, p2, _⟩ := hR.out
  have kW := ex_trans k k'
  have hzb := (Array.getElem?_eq_some_iff.1 h6).1
  have hb2 := ex_block kW h6
  have key : ∀ V : World, Ex w V → w'.heap.size ≤ V.heap.size → V.heap[b]? = some (.cells (rowD hv2 qv2 (askD a dm).1) 32 (0, 0)) → (∀ g, (g < W.heap.size ∧ g ≠ b) ∨ W'.heap.size ≤ g → V.heap[g]? = w'.heap[g]?) → St1 F w V p b d (askD a dm).1 := by
    intro V kV hsz hVb hV
    refine ⟨kV, h.fl, L, hv2, qv2, _, h1, ?_, h3, h4, h5, hVb, hR.keep hsz fun g hg => ?_, fun g hg => ?_⟩
    · obtain ⟨qx, hM⟩ := h2.out
      refine ⟨qx, (hM.ex kW).keep fun c hc => hV c (Or.inl ⟨hM.lt hc, fun e => h5 (e ▸ hc)⟩)⟩
    · rcases hg.1 with hg1 | hg1
      · exact hV g (Or.inl ⟨(h8 g hg1).2.2.1, (h8 g hg1).2.1⟩)
      · exact hV g (Or.inr hg1)
    · refine ⟨?_, ?_, Nat.lt_of_lt_of_le hg.2 hsz, ?_⟩
      · rcases hg.1 with hg1 | hg1
        · exact (h8 g hg1).1
        · intro e; have := h2.lt e; have := ex_size k; omega
      · rcases hg.1 with hg1 | hg1
        · exact (h8 g hg1).2.1
        · have := ex_size k; omega
      · rcases hg.1 with hg1 | hg1
        · exact (h8 g hg1).2.2.2
        · intro e; have := h.fl g e; have := ex_size h.ex; have := ex_size k; omega
  have e4 := setCells_block b 32 (0, 0) (rowD hv2 qv2 (askD a dm).1).toList 0 w' _ hb2
  rw [spliceA_all _ _ (show (rowD hv2 qv2 (askD a dm).1).toList.length = (rowD hv qv dm).size from rfl)] at e4
  refine ⟨hv2, qv2, rfl, p1, p2, k', ?_, fun x vs hx1 hx2 => ?_⟩
  · exact key _ (ex_setCellsK (ex_trans h.ex kW) h4 _ _) (by rw [setCells_size]; exact Nat.le_refl _) e4 fun g hg => setCells_heap _ _ _ _ _ (hg.elim And.right fun e => by have := ex_size k; omega)
  · refine key _ (ex_setCellsK (ex_setCellsK (ex_trans h.ex kW) h4 _ _) (Nat.le_trans (ex_size h.ex) hx1) _ _) (by rw [setCells_size, setCells_size]; exact Nat.le_refl _) ((setCells_heap _ _ _ _ _ (by omega)).trans e4) fun g hg => ?_
    rw [setCells_heap _ _ _ _ _ (by omega), setCells_heap _ _ _ _ _ (hg.elim And.right fun e => by have := ex_size k; omega)]
theorem St1.tells (h : St1 F w W p b d d) : ∃ hv qv, W.heap[b]? = some (.cells (rowD hv qv d) 32 (0, 0)) ∧ hv.oneCell' = true ∧ qv.oneCell' = true ∧ ∀ W', Ex W W' → Calls Try.prog 13 #[PT p, .agg (rowD hv qv d)] W' (Post W' (.bool true)) := by
  obtain ⟨L, hv, qv, N, h1, h2, h3, h4, h5, h6, h7, h8⟩ := h.out
  obtain ⟨hv', qv', e, o1, o2, _⟩ := h7.out
  obtain ⟨rfl, rfl⟩ : hv = hv' ∧ qv = qv' := by unfold rowD at e; simp at e; exact ⟨e.1, e.2⟩
  refine ⟨hv, qv, h6, o1, o2, fun W' k => ?_⟩
  have := tells_any (h2.ex k) (h7.ex k).rd
  rwa [h1] at this
theorem St1.sectors (h : St1 F w W p b d d) (hops : d.ops < 1000000) : ∃ hv qv, W.heap[b]? = some (.cells (rowD hv qv d) 32 (0, 0)) ∧ hv.oneCell' = true ∧ qv.oneCell' = true ∧ ∀ W', Ex W W' → Calls Try.prog 16 #[PT p, .agg (rowD hv qv d)] W' fun e w' => e = .returned (.bool true) ∧ Ex w w' := by
  obtain ⟨L, hv, qv, N, h1, h2, h3, h4, h5, h6, h7, h8⟩ := h.out
  obtain ⟨hv', qv', e, o1, o2, _⟩ := h7.out
  obtain ⟨rfl, rfl⟩ : hv = hv' ∧ qv = qv' := by unfold rowD at e; simp at e; exact ⟨e.1, e.2⟩
  refine ⟨hv, qv, h6, o1, o2, fun W' k => ?_⟩
  have := sectors_any (h2.ex k) (h7.ex k) (fun g hg => ⟨(h8 g hg).1, Nat.lt_of_lt_of_le (h8 g hg).2.2.1 (ex_size k)⟩) hops
  rw [h1] at this
  refine this.mono fun e w' hh => ?_
  obtain ⟨rfl, L', d', a1, a2⟩ := hh
  exact ⟨rfl, ex_of_below ((ex_below (ex_trans h.ex k)).trans (a2.below (ex_size (ex_trans h.ex k)) h3))⟩
end
end Go.Proofs.Ytdohohafdplkiaa
