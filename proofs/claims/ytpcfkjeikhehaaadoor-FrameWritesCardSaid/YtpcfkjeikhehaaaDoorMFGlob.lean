import Derived.Test.YtpcfkjeikhehaaaDoorMFrO
import Derived.Test.YtpcfkjeikhehaaaDoorMOpen
import Derived.Test.YtpcfkjeikhehaaaDoorRows
import Derived.Test.YtpcfkjeikhehaaaDoorCards
import Derived.Test.YtpcfkjeikhehaaaDoorTie

/- What the rows' list gives: the package's variables. -/
set_option linter.unusedSimpArgs false
set_option linter.unusedVariables false
set_option maxRecDepth 20000
namespace Go.Proofs.YtpcfkjeikhehaaaDoor
open Go.RowKit Go.ChangeShapes Go.WideShapes Go.ChangeAt
theorem ownK : ownKnob Tryd.prog.godebug = none := by kernel_rfl
theorem laidOutK : laidOutB Tryd.prog = true := by kernel_rfl
theorem gs : Tryd.prog.globalNamed "tallyhouse/blake.start" = some 0 := by kernel_rfl
theorem go : Tryd.prog.globalNamed "tallyhouse/blake.orders" = some 2 := by kernel_rfl
theorem gf : Tryd.prog.globalNamed "tallyhouse/blake.fours" = some 3 := by kernel_rfl
theorem ts : (Tryd.prog.globals[0]?).map (·.type) = some 99 := by kernel_rfl
theorem to : (Tryd.prog.globals[2]?).map (·.type) = some 131 := by kernel_rfl
theorem tf : (Tryd.prog.globals[3]?).map (·.type) = some 133 := by kernel_rfl
theorem c8u : Tryd.prog.cellsOf 99 = 8 := by kernel_rfl
theorem cu : Tryd.prog.cellsOf 98 = 1 := by kernel_rfl
theorem ci : Tryd.prog.cellsOf 3 = 1 := by kernel_rfl
theorem cb : Tryd.prog.cellsOf 5 = 1 := by kernel_rfl
theorem c16 : Tryd.prog.cellsOf 130 = 16 := by kernel_rfl
theorem c4 : Tryd.prog.cellsOf 132 = 4 := by kernel_rfl
theorem c1016 : Tryd.prog.cellsOf 131 = 160 := by kernel_rfl
theorem c84 : Tryd.prog.cellsOf 133 = 32 := by kernel_rfl
theorem c64b : Tryd.prog.cellsOf 101 = 64 := by kernel_rfl
theorem cid : Tryd.prog.cellsOf 75 = 32 := by kernel_rfl
theorem c4u : Tryd.prog.cellsOf 134 = 4 := by kernel_rfl
def startL : List Int := [1779033703, 3144134277, 1013904242, 2773480762, 1359893119, 2600822924, 528734635, 1541459225]
def ordersL : List (List Int) := (List.range 10).map fun i => (List.range 16).map fun r => ordersF (i * 16 + r)
def foursL : List (List Int) := (List.range 8).map fun i => (List.range 4).map fun r => foursF (i * 4 + r)
theorem dataS {H : Type} : (Rows.laid_tallyhouse_blake_start : DataW H) = Lib.tabData .u32 startL := rfl
theorem dataO {H : Type} : (Rows.laid_tallyhouse_blake_orders : DataW H) = .agg (ordersL.map (Lib.tabData .i64)) := by kernel_rfl
theorem dataF {H : Type} : (Rows.laid_tallyhouse_blake_fours : DataW H) = .agg (foursL.map (Lib.tabData .i64)) := by kernel_rfl
theorem var_cells {W : World} {name : String} {g : Nat} {cs : Array Value} (hg : Tryd.prog.globalNamed name = some g) (h : W.var? Tryd.prog name = some cs) : g < W.heap.size ∧ ∀ i, W.cell? ⟨g, i, none⟩ = cs[i]? := by
  refine ⟨?_, fun i => World.var?_cell hg h i⟩
  simp only [World.var?, hg, Option.bind_some] at h
  rcases Nat.lt_or_ge g W.heap.size with h1 | h1
  · exact h1
  · rw [Array.getElem?_eq_none h1] at h; cases h
theorem gc : Tryd.prog.globalNamed "tallyhouse/frame.counts" = some 1 := by kernel_rfl
theorem tc : (Tryd.prog.globals[1]?).map (·.type) = some 111 := by kernel_rfl
theorem c6 : Tryd.prog.cellsOf 111 = 6 := by kernel_rfl
def countsLL : List Int := [0, 2, 1, 14, 3, 50]
theorem dataC {H : Type} : (Rows.laid_tallyhouse_frame_counts : DataW H) = Lib.tabData .i64 countsLL := rfl
theorem glob_of_laid {W : World} (h : laidMet Tryd.prog [("tallyhouse/blake.start", Rows.laid_tallyhouse_blake_start), ("tallyhouse/blake.orders", Rows.laid_tallyhouse_blake_orders), ("tallyhouse/blake.fours", Rows.laid_tallyhouse_blake_fours), ("tallyhouse/frame.counts", Rows.laid_tallyhouse_frame_counts)] W) : FGlob W := by
  obtain ⟨ps, ⟨g1, t1, cs1, f1, p1, q1, hg1, ht1, hv1, hd1, ⟨g2, t2, cs2, f2, p2, q2, hg2, ht2, hv2, hd2, ⟨g3, t3, cs3, f3, p3, q3, hg3, ht3, hv3, hd3, ⟨g4, t4, cs4, f4, p4, q4, hg4, ht4, hv4, hd4, _, _⟩, _⟩, _⟩, _⟩, _⟩ := h
  obtain rfl := Option.some.inj (gc.symm.trans hg4)
  obtain rfl := Option.some.inj (tc.symm.trans ht4)
  obtain ⟨z4, c4'⟩ := var_cells gc hv4
  rw [dataC] at hd4
  have e4 := Lib.cells_of_tab Tryd.underlying111 Tryd.underlying3 ci c6 hd4
  refine ⟨?_, cellsN_some.2 ⟨by simp, fun j hj => by rw [Nat.zero_add, c4', show cs4 = rowI 6 countsF from by apply Array.toList_inj.1; rw [e4]; rfl]⟩, z4⟩
  obtain rfl := Option.some.inj (gs.symm.trans hg1)
  obtain rfl := Option.some.inj (go.symm.trans hg2)
  obtain rfl := Option.some.inj (gf.symm.trans hg3)
  obtain rfl := Option.some.inj (ts.symm.trans ht1)
  obtain rfl := Option.some.inj (to.symm.trans ht2)
  obtain rfl := Option.some.inj (tf.symm.trans ht3)
  obtain ⟨z1, c1⟩ := var_cells gs hv1
  obtain ⟨z2, c2⟩ := var_cells go hv2
  obtain ⟨z3, c3⟩ := var_cells gf hv3
  rw [dataS] at hd1
  rw [dataO] at hd2
  rw [dataF] at hd3
  have e1 := Lib.cells_of_tab Tryd.underlying99 Tryd.underlying98 cu c8u hd1
  have e2 := nest_of_tab Tryd.underlying131 Tryd.underlying130 Tryd.underlying3 ci c16 hd2
  have e3 := nest_of_tab Tryd.underlying133 Tryd.underlying132 Tryd.underlying3 ci c4 hd3
  refine ⟨cellsN_some.2 ⟨by simp, fun j hj => ?_⟩, cellsN_some.2 ⟨by simp, fun j hj => ?_⟩, cellsN_some.2 ⟨by simp, fun j hj => ?_⟩, z1, z2, z3⟩
  · rw [Nat.zero_add, c1, show cs1 = rowU 8 startF from by
      apply Array.toList_inj.1; rw [e1]; rfl]
  · rw [Nat.zero_add, c2, rowI_get, if_pos hj]
    have h4 := e2 (j / 16) (j % 16) (by omega) (by omega)
    rw [show j / 16 * 16 + j % 16 = j by omega, Array.getElem?_toList] at h4
    rw [h4]
    have h5 : ordersL[j / 16]? = some ((List.range 16).map fun r => ordersF (j / 16 * 16 + r)) := by
      unfold ordersL; rw [List.getElem?_map, List.getElem?_range (by omega)]; rfl
    rw [h5]
    simp only [Option.bind_some, List.getElem?_map, List.getElem?_range (show j % 16 < 16 by omega), Option.map_some]
    rw [show j / 16 * 16 + j % 16 = j by omega]
  · rw [Nat.zero_add, c3, rowI_get, if_pos hj]
    have h4 := e3 (j / 4) (j % 4) (by omega) (by omega)
    rw [show j / 4 * 4 + j % 4 = j by omega, Array.getElem?_toList] at h4
    rw [h4]
    have h5 : foursL[j / 4]? = some ((List.range 4).map fun r => foursF (j / 4 * 4 + r)) := by
      unfold foursL; rw [List.getElem?_map, List.getElem?_range (by omega)]; rfl
    rw [h5]
    simp only [Option.bind_some, List.getElem?_map, List.getElem?_range (show j % 4 < 4 by omega), Option.map_some]
    rw [show j / 4 * 4 + j % 4 = j by omega]
end Go.Proofs.YtpcfkjeikhehaaaDoor

/- A start for the cards' witnesses. -/
set_option linter.unusedSimpArgs false
set_option linter.unusedVariables false
set_option maxRecDepth 20000
namespace Go.Proofs.YtpcfkjeikhehaaaDoor
open Go.RowKit Go.ChangeShapes Go.WideShapes Go.ChangeAt
/-- A block's cells anew. -/
def setBlk (w : World) (i : Nat) (cs : Array Value) : World := { w with heap := w.heap.modify i fun
      | .cells _ t frozen => .cells cs t frozen
      | o => o }
noncomputable def laidWorld (os : Os) : World :=
  setBlk (setBlk (setBlk (setBlk (World.holding Tryd.prog os ⟨#[], #[], []⟩) 0 (rowU 8 startF)) 2 (rowI 160 ordersF)) 3 (rowI 32 foursF)) 1 (rowI 6 countsF)
end Go.Proofs.YtpcfkjeikhehaaaDoor
