import Derived.Test.YtdohohafdplkiaaMDkR
import Derived.Test.YtdohohafdplkiaaMDkC

/- Read. -/
set_option linter.unusedSimpArgs false
set_option linter.unusedVariables false
set_option maxRecDepth 20000
namespace Go.Proofs.Ytdohohafdplkiaa
open Go.RowKit
theorem Dv.frm {L L' : Loc} {w W W' : World} {F : Nat → Prop} (h : Dv L w L' W) (k : Frm F W W') (hF : ∀ b, F b → w.heap.size ≤ b) : Dv L w L' W' :=
  ⟨k.os.trans h.os, k.tape.trans h.tape, k.output.trans h.output, Nat.le_trans h.size k.size, fun b hb ho => (k.same b (Nat.lt_of_lt_of_le hb h.size) fun e => by have := hF b e; omega).trans (h.same b hb ho), h.pp, h.hh, h.qq⟩
theorem zeroB_row : rowB 64 (bkF zeroB) = rowB 64 fun _ => 0 := rowB_congr fun i hi => bkF_of _ i hi
theorem reads_req (d : Dk) (s : Int) (ch : Bool) (i : Int) : readsD (reqD d s ch).1 i = readsD d i := by
  unfold readsD; rw [(req_same d s ch).1, (req_same d s ch).2.1]
/-- What handed back a block and an error. -/
def PostRd (w : World) (L : Loc) (r : Dk × Bk × Int) (e : Ending) (w' : World) : Prop :=
  ∃ L', e = .returned (.tuple #[.agg (rowB 64 (bkF r.2.1)), I r.2.2]) ∧ DkAt w' L' r.1 ∧ Dv L w L' w'
set_option maxHeartbeats 1000000 in
theorem read_any {w : World} {L : Loc} {d : Dk} (h : DkAt w L d) (i : Int) (h1 : -9223372036854775808 ≤ i) (h2 : i < 9223372036854775808) (hops : d.ops < 1000000000) :
    Calls Try.prog 21 #[PT L.p, I i] w (PostRd w L (readD d i)) := by
  obtain ⟨w1, hw1⟩ : ∃ w1, ((w.alloc (.cells #[PT L.p] 24)).alloc (.cells #[I i] 3)).alloc (.cells (rowB 64 fun _ => 0) 39) = w1 := ⟨_, rfl⟩
  have k1 : Ex w w1 := by rw [← hw1]; exact ex_alloc (ex_alloc (ex_alloc (ex_refl _) _) _) _
  obtain ⟨Z, hZ⟩ : ∃ Z, Z = w.heap.size := ⟨_, rfl⟩
  have hs1 : w1.heap.size = Z + 3 := by rw [← hw1, hZ]; simp [go_sem]
  have r0 : w1.heap[Z]? = some (.cells #[PT L.p] 24 (0, 0)) := by rw [← hw1, hZ]; exact ex_block (ex_alloc (ex_alloc (ex_refl _) _) _) (heap_alloc_new w _)
  have r1 : w1.heap[Z + 1]? = some (.cells #[I i] 3 (0, 0)) := by
    rw [← hw1, hZ]
    have := ex_block (ex_alloc (ex_refl _) (.cells (rowB 64 fun _ => 0) 39)) (heap_alloc_new (w.alloc (.cells #[PT L.p] 24)) (.cells #[I i] 3))
    simpa only [World.size_alloc] using this
  have r2 : w1.heap[Z + 2]? = some (.cells (rowB 64 fun _ => 0) 39 (0, 0)) := by
    rw [← hw1, hZ]
    have := heap_alloc_new ((w.alloc (.cells #[PT L.p] 24)).alloc (.cells #[I i] 3)) (.cells (rowB 64 fun _ => 0) 39)
    simpa only [World.size_alloc] using this
  have hown : ∀ b, L.own b → b < Z := fun b hb => by rw [hZ]; exact h.lt hb
  have HQ : Calls Try.prog 45 #[PT L.p, I i, .bool false, .func (.func 46) #[] #[PT Z, PT (Z + 1), PT (Z + 2)]] w1 fun e w' =>
      e = .returned (I (readD d i).2.2) ∧ w'.heap[Z + 2]? = some (.cells (rowB 64 (bkF (readD d i).2.1)) 39 (0, 0)) ∧ DkAt w' L (readD d i).1 ∧ Dv L w L w' := by
    refine (requestR_any (h.ex k1) i h1 h2 false _ (fun W => W.heap[Z + 2]? = some (.cells (rowB 64 (bkF (readsD d i))) 39 (0, 0)) ∧ DkAt W L (reqD d i false).1 ∧ Dv L w L W) hops ?_ ?_).mono ?_
    · intro hr W hW hD
      have hin := req_in hr
      have hsame : ∀ b, b < Z + 3 → Z ≤ b → W.heap[b]? = w1.heap[b]? := fun b hb hz => hD.same b (by omega) fun e => by have := hown b e; omega
      have hin2 : 0 ≤ i ∧ i < (reqD d i false).1.has.length := by rw [(req_same d i false).1]; exact hin
      refine (readfn_any hW i hin2 Z (Z + 1) (Z + 2) Z _ hown (Nat.le_refl _) (by omega) (by omega) (by omega) (by omega) ((hsame Z (by omega) (by omega)).trans r0) ((hsame (Z + 1) (by omega) (by omega)).trans r1) ((hsame (Z + 2) (by omega) (by omega)).trans r2)).mono ?_
      rintro e W' ⟨rfl, hb, hf⟩
      rw [reads_req] at hb
      obtain ⟨qv, hM⟩ := hW.out
      exact ⟨rfl, hb, ⟨qv, hM.keep fun b hb => hf.same b (hM.lt hb) fun e => by have := hown b hb; omega⟩, ((Dv.ofEx k1).trans hD).frm hf fun b hb => by omega⟩
    · rintro W ⟨_, hW, _⟩
      obtain ⟨qv, hM⟩ := hW.out
      obtain ⟨⟨c0, c1, c2, c3, c4, c5⟩, hf, hz⟩ := hM.cells
      rw [(req_same d i false).2.2] at c5
      exact ⟨c5, hf 5, hz⟩
    · rintro e w' (⟨hr, rfl, hW, hD⟩ | ⟨hr, rfl, W, ⟨hb, hW, hD⟩, rfl⟩)
      · have hrd : readD d i = ((reqD d i false).1, zeroB, (reqD d i false).2) := by unfold readD; rw [if_neg hr]
        rw [hrd]
        refine ⟨rfl, ?_, hW, (Dv.ofEx k1).trans hD⟩
        rw [zeroB_row, hD.same (Z + 2) (by omega) fun e => by have := hown _ e; omega]
        exact r2
      · have hrd : readD d i = (incD (reqD d i false).1, readsD d i, 0) := by unfold readD; rw [if_pos hr]
        rw [hrd]
        obtain ⟨qv, hM⟩ := hW.out
        have hp := hown L.p (Or.inl rfl)
        refine ⟨rfl, (setCell_heap _ (by omega)).trans hb, ⟨qv, ?_⟩, hD.setP 5 _⟩
        have := hM.setOps (n := d.ops + 1) (by omega)
        unfold incD
        rw [(req_same d i false).2.2]
        exact this
  unfold PostRd
  generalize readD d i = r at *
  obtain ⟨d', b, er⟩ := r
  simp only at HQ
  have HQ2 : Hid (Calls Try.prog 45 #[PT L.p, I i, .bool false, .func (.func 46) #[] #[PT w.heap.size, PT (w.heap.size + 1), PT (w.heap.size + 2)]]
      (((w.alloc (.cells #[PT L.p] 24)).alloc (.cells #[I i] 3)).alloc (.cells (rowB 64 fun _ => 0) 39)) fun e w' =>
      e = .returned (I er) ∧ w'.heap[w.heap.size + 2]? = some (.cells (rowB 64 (bkF b)) 39 (0, 0)) ∧ DkAt w' L d' ∧ Dv L w L w') := Lib.hid (by rw [hw1, ← hZ]; exact HQ)
  have HO := Lib.hid (fun b (hb : L.own b) => h.lt hb)
  clear hw1 r0 r1 r2 hown k1 h HQ hs1 hZ
  go_enter Try.func21, Try.ntmps21
  go_wp2_with (go_at_call 45; (with_reducible refine HQ2.out.mono ?_); rintro e w2 ⟨rfl, hb, hW, hD⟩; obtain ⟨n2, f2⟩ := block_cells (n := 64) hb (by simp); replace hb := Lib.hid hb; replace hW := Lib.hid hW; replace hD := Lib.hid hD)
  have hbk : (w2.setCells (w.heap.size + 1 + 1) 0 (rowB 64 (bkF b)).toList).heap[w.heap.size + 1 + 1]? = some (.cells (rowB 64 (bkF b)) 39 (0, 0)) := by
    have := setCells_block (w.heap.size + 1 + 1) 39 (0, 0) (rowB 64 (bkF b)).toList 0 w2 _ hb.out
    rwa [show spliceA (rowB 64 (bkF b)) 0 (rowB 64 (bkF b)).toList = rowB 64 (bkF b) by rw [spliceA_all _ _ (by simp)]] at this
  refine ret_rowV Try.results21 Try.underlying39 rfl info_blk rfl (block_cells hbk (by simp)).1 rfl rfl ⟨L, rfl, ?_, ?_⟩
  · obtain ⟨qv, hM⟩ := hW.out.out
    exact ⟨qv, hM.keep fun k hk => setCells_heap _ _ _ _ _ (by have := HO.out k hk; omega)⟩
  · exact hD.out.frm (((Frm.refl (fun k => k = w.heap.size + 1 + 1) w2)).sets rfl _ _) (fun k hk => by omega)
end Go.Proofs.Ytdohohafdplkiaa
