import Derived.Test.YtcdocklbpfdmeaaDoorMSum
import Derived.Test.YtcdocklbpfdmeaaDoorMOpen
import Derived.Test.YtcdocklbpfdmeaaDoorRows
import Derived.Test.YtcdocklbpfdmeaaDoorCards
import Derived.Test.YtcdocklbpfdmeaaDoorTie
import Derived.Test.YtcdocklbpfdmeaaDoorMMixR
import Derived.Test.YtcdocklbpfdmeaaDoorMLbA

/- What the rows' list gives: the package's variables. -/
set_option linter.unusedSimpArgs false
set_option linter.unusedVariables false
set_option maxRecDepth 20000
namespace Go.Proofs.YtcdocklbpfdmeaaDoor
open Go.RowKit Go.ChangeShapes Go.WideShapes Go.ChangeAt
theorem ownK : ownKnob Tryd.prog.godebug = none := by kernel_rfl
theorem laidOutK : laidOutB Tryd.prog = true := by kernel_rfl
theorem gs : Tryd.prog.globalNamed "tallyhouse/blake.start" = some 0 := by kernel_rfl
theorem go : Tryd.prog.globalNamed "tallyhouse/blake.orders" = some 1 := by kernel_rfl
theorem gf : Tryd.prog.globalNamed "tallyhouse/blake.fours" = some 2 := by kernel_rfl
theorem ts : (Tryd.prog.globals[0]?).map (·.type) = some 158 := by kernel_rfl
theorem to : (Tryd.prog.globals[1]?).map (·.type) = some 194 := by kernel_rfl
theorem tf : (Tryd.prog.globals[2]?).map (·.type) = some 196 := by kernel_rfl
theorem c8u : Tryd.prog.cellsOf 158 = 8 := by kernel_rfl
theorem cu : Tryd.prog.cellsOf 150 = 1 := by kernel_rfl
theorem ci : Tryd.prog.cellsOf 3 = 1 := by kernel_rfl
theorem cb : Tryd.prog.cellsOf 5 = 1 := by kernel_rfl
theorem c16 : Tryd.prog.cellsOf 193 = 16 := by kernel_rfl
theorem c4 : Tryd.prog.cellsOf 195 = 4 := by kernel_rfl
theorem c1016 : Tryd.prog.cellsOf 194 = 160 := by kernel_rfl
theorem c84 : Tryd.prog.cellsOf 196 = 32 := by kernel_rfl
theorem c64b : Tryd.prog.cellsOf 160 = 64 := by kernel_rfl
theorem cid : Tryd.prog.cellsOf 46 = 32 := by kernel_rfl
theorem c4u : Tryd.prog.cellsOf 197 = 4 := by kernel_rfl
def startL : List Int := [1779033703, 3144134277, 1013904242, 2773480762, 1359893119, 2600822924, 528734635, 1541459225]
def ordersL : List (List Int) := (List.range 10).map fun i => (List.range 16).map fun r => ordersF (i * 16 + r)
def foursL : List (List Int) := (List.range 8).map fun i => (List.range 4).map fun r => foursF (i * 4 + r)
theorem dataS {H : Type} : (Rows.laid_tallyhouse_blake_start : DataW H) = Lib.tabData .u32 startL := rfl
theorem dataO {H : Type} : (Rows.laid_tallyhouse_blake_orders : DataW H) = .agg (ordersL.map (Lib.tabData .i64)) := by kernel_rfl
theorem dataF {H : Type} : (Rows.laid_tallyhouse_blake_fours : DataW H) = .agg (foursL.map (Lib.tabData .i64)) := by kernel_rfl
theorem var_cells {W : World} {name : String} {g : Nat} {cs : Array Value} (hg : Tryd.prog.globalNamed name = some g) (h : W.var? Tryd.prog name = some cs) : g < W.heap.size ∧ ∀ i, W.cell? ⟨g, i, none⟩ = cs[i]? := by
  refine ⟨?_, fun i => World.var?_cell hg h i⟩
  simp only [World.var?, hg, Option.bind_some] at h
  rcases Nat.lt_or_ge g W.heap.size with h1 | h1
  · exact h1
  · rw [Array.getElem?_eq_none h1] at h; cases h
theorem glob_of_laid {W : World} (h : laidMet Tryd.prog [("tallyhouse/blake.start", Rows.laid_tallyhouse_blake_start), ("tallyhouse/blake.orders", Rows.laid_tallyhouse_blake_orders), ("tallyhouse/blake.fours", Rows.laid_tallyhouse_blake_fours)] W) : Glob W := by
  obtain ⟨ps, ⟨g1, t1, cs1, f1, p1, q1, hg1, ht1, hv1, hd1, ⟨g2, t2, cs2, f2, p2, q2, hg2, ht2, hv2, hd2, ⟨g3, t3, cs3, f3, p3, q3, hg3, ht3, hv3, hd3, _, _⟩, _⟩, _⟩, _⟩ := h
  obtain rfl := Option.some.inj (gs.symm.trans hg1)
  obtain rfl := Option.some.inj (go.symm.trans hg2)
  obtain rfl := Option.some.inj (gf.symm.trans hg3)
  obtain rfl := Option.some.inj (ts.symm.trans ht1)
  obtain rfl := Option.some.inj (to.symm.trans ht2)
  obtain rfl := Option.some.inj (tf.symm.trans ht3)
  obtain ⟨z1, c1⟩ := var_cells gs hv1
  obtain ⟨z2, c2⟩ := var_cells go hv2
  obtain ⟨z3, c3⟩ := var_cells gf hv3
  rw [dataS] at hd1
  rw [dataO] at hd2
  rw [dataF] at hd3
  have e1 := Lib.cells_of_tab Tryd.underlying158 Tryd.underlying150 cu c8u hd1
  have e2 := nest_of_tab Tryd.underlying194 Tryd.underlying193 Tryd.underlying3 ci c16 hd2
  have e3 := nest_of_tab Tryd.underlying196 Tryd.underlying195 Tryd.underlying3 ci c4 hd3
  refine ⟨cellsN_some.2 ⟨by simp, fun j hj => ?_⟩, cellsN_some.2 ⟨by simp, fun j hj => ?_⟩, cellsN_some.2 ⟨by simp, fun j hj => ?_⟩, z1, z2, z3⟩
  · rw [Nat.zero_add, c1, show cs1 = rowU 8 startF from by
      apply Array.toList_inj.1; rw [e1]; rfl]
  · rw [Nat.zero_add, c2, rowI_get, if_pos hj]
    have h4 := e2 (j / 16) (j % 16) (by omega) (by omega)
    rw [show j / 16 * 16 + j % 16 = j by omega, Array.getElem?_toList] at h4
    rw [h4]
    have h5 : ordersL[j / 16]? = some ((List.range 16).map fun r => ordersF (j / 16 * 16 + r)) := by
      unfold ordersL; rw [List.getElem?_map, List.getElem?_range (by omega)]; rfl
    rw [h5]
    simp only [Option.bind_some, List.getElem?_map, List.getElem?_range (show j % 16 < 16 by omega), Option.map_some]
    rw [show j / 16 * 16 + j % 16 = j by omega]
  · rw [Nat.zero_add, c3, rowI_get, if_pos hj]
    have h4 := e3 (j / 4) (j % 4) (by omega) (by omega)
    rw [show j / 4 * 4 + j % 4 = j by omega, Array.getElem?_toList] at h4
    rw [h4]
    have h5 : foursL[j / 4]? = some ((List.range 4).map fun r => foursF (j / 4 * 4 + r)) := by
      unfold foursL; rw [List.getElem?_map, List.getElem?_range (by omega)]; rfl
    rw [h5]
    simp only [Option.bind_some, List.getElem?_map, List.getElem?_range (show j % 4 < 4 by omega), Option.map_some]
    rw [show j / 4 * 4 + j % 4 = j by omega]
end Go.Proofs.YtcdocklbpfdmeaaDoor

/- A start for the cards' witnesses. -/
set_option linter.unusedSimpArgs false
set_option linter.unusedVariables false
set_option maxRecDepth 20000
namespace Go.Proofs.YtcdocklbpfdmeaaDoor
open Go.RowKit Go.ChangeShapes Go.WideShapes Go.ChangeAt
/-- A block's cells anew. -/
def setBlk (w : World) (i : Nat) (cs : Array Value) : World := { w with heap := w.heap.modify i fun
      | .cells _ t frozen => .cells cs t frozen
      | o => o }
noncomputable def laidWorld (os : Os) : World :=
  setBlk (setBlk (setBlk (World.holding Tryd.prog os ⟨#[], #[], []⟩) 0 (rowU 8 startF)) 1 (rowI 160 ordersF)) 2 (rowI 32 foursF)
end Go.Proofs.YtcdocklbpfdmeaaDoor

/- Digests that a row holds. -/
set_option linter.unusedSimpArgs false
set_option linter.unusedVariables false
set_option maxRecDepth 20000
namespace Go.Proofs.YtcdocklbpfdmeaaDoor
open Go.RowKit
def dgs (n : Nat) (E : Nat → (Nat → UInt8)) : List Dg := (List.range n).map fun i => ofF (E i)
theorem dgs_len (n : Nat) (E : Nat → (Nat → UInt8)) : (dgs n E).length = n := by simp [dgs]
theorem row_ofF (f : Nat → UInt8) : rowB 32 (dF (ofF f)) = rowB 32 f := rowB_congr fun i hi => dF_ofF f i hi
theorem sld_of_sln {w : World} {a : Option Addr} {n : Nat} {E : Nat → (Nat → UInt8)} (h : SlN w a n 32 fun i => rowB 32 (E i)) : SlD w a (dgs n E) := by
  rcases h.out with rfl | ⟨g, off, h1, h2, h3⟩
  · exact ⟨Or.inl rfl⟩
  · refine ⟨Or.inr ⟨g, off, h1, h2, fun i d hd => ?_⟩⟩
    have hi : i < n := by
      have := (List.getElem?_eq_some_iff.1 hd).1
      rwa [dgs_len] at this
    unfold dgs at hd
    rw [List.getElem?_map, List.getElem?_range hi] at hd
    obtain rfl : ofF (E i) = d := by simpa using hd
    rw [h3 i hi, row_ofF]
end Go.Proofs.YtcdocklbpfdmeaaDoor

/- How the data of a row of the search are opened. -/
set_option linter.unusedSimpArgs false
set_option linter.unusedVariables false
set_option linter.unnecessarySimpa false
set_option maxRecDepth 20000
namespace Go.Proofs.YtcdocklbpfdmeaaDoor
open Go.RowKit Go.ChangeShapes Go.WideShapes Go.ChangeAt
theorem ccell : Tryd.prog.cellsOf 42 = 2 := by kernel_rfl
theorem crange : Tryd.prog.cellsOf 24 = 3 := by kernel_rfl
theorem cspan : Tryd.prog.cellsOf 27 = 4 := by kernel_rfl
theorem c1str : Tryd.prog.cellsOf 9 = 1 := by kernel_rfl
theorem c1bool : Tryd.prog.cellsOf 4 = 1 := by kernel_rfl
theorem c1int : Tryd.prog.cellsOf 3 = 1 := by kernel_rfl
theorem c1cells : Tryd.prog.cellsOf 22 = 1 := by kernel_rfl
theorem c1ids : Tryd.prog.cellsOf 25 = 1 := by kernel_rfl
def prs (n : Nat) (E : Nat → Pr) : List Pr := (List.range n).map E
theorem prs_len (n : Nat) (E : Nat → Pr) : (prs n E).length = n := by simp [prs]
theorem slp_of_sln {w : World} {a : Option Addr} {n : Nat} {E : Nat → Pr} (h : SlN w a n 2 fun i => PC (E i)) : SlP w a (prs n E) := by
  rcases h.out with rfl | ⟨g, off, h1, h2, h3⟩
  · exact ⟨Or.inl rfl⟩
  · refine ⟨Or.inr ⟨g, off, h1, h2, fun i d hd => ?_⟩⟩
    have hi : i < n := by
      have := (List.getElem?_eq_some_iff.1 hd).1
      rwa [prs_len] at this
    unfold prs at hd
    rw [List.getElem?_map, List.getElem?_range hi] at hd
    obtain rfl : E i = d := by simpa using hd
    exact h3 i hi
section
variable {H : Type} {enc : TypeId × Value → H} {w : World} {base : Nat} {sp : Nat → Bool} {held : Bool}
theorem pr_of_trod {fuel : Nat} {cs : List Value} {x : DataW H × List MemPlace} (h : DataW.trod enc Tryd.prog w base sp held fuel 42 cs = some x) : ∃ p : Pr, cs = (PC p).toList := by
  obtain ⟨xs, m, _, _, hl, hxl, hel⟩ := DataW.trod_struct Tryd.underlying42 h
  rw [ccell] at hl
  have hxl' : xs.length = 2 := hxl
  have e0 : DataW.trod enc Tryd.prog w base sp held m 9 ((cs.drop 0).take (Tryd.prog.cellsOf 9)) = xs[0]? := hel 0 _ rfl
  have e1 : DataW.trod enc Tryd.prog w base sp held m 9 ((cs.drop 1).take (Tryd.prog.cellsOf 9)) = xs[1]? := hel 1 _ rfl
  rw [c1str] at e0 e1
  rw [List.getElem?_eq_getElem (by omega)] at e0 e1
  obtain ⟨s, hs, _, _⟩ := DataW.trod_string Tryd.underlying9 e0
  obtain ⟨t, ht, _, _⟩ := DataW.trod_string Tryd.underlying9 e1
  obtain ⟨a, b, rfl⟩ : ∃ a b, cs = [a, b] := by
    match cs, hl with
    | [a, b], _ => exact ⟨a, b, rfl⟩
  simp at hs ht
  subst hs ht
  exact ⟨(s, t), rfl⟩
theorem rg_of_trod {fuel : Nat} {cs : List Value} {x : DataW H × List MemPlace} (h : DataW.trod enc Tryd.prog w base sp held fuel 24 cs = some x) : ∃ r : Rg, cs = [.string r.lo, .string r.hi, .bool r.op] := by
  obtain ⟨xs, m, _, _, hl, hxl, hel⟩ := DataW.trod_struct Tryd.underlying24 h
  rw [crange] at hl
  have hxl' : xs.length = 3 := hxl
  have e0 : DataW.trod enc Tryd.prog w base sp held m 9 ((cs.drop 0).take (Tryd.prog.cellsOf 9)) = xs[0]? := hel 0 _ rfl
  have e1 : DataW.trod enc Tryd.prog w base sp held m 9 ((cs.drop 1).take (Tryd.prog.cellsOf 9)) = xs[1]? := hel 1 _ rfl
  have e2 : DataW.trod enc Tryd.prog w base sp held m 4 ((cs.drop 2).take (Tryd.prog.cellsOf 4)) = xs[2]? := hel 2 _ rfl
  rw [c1str] at e0 e1
  rw [c1bool] at e2
  rw [List.getElem?_eq_getElem (by omega)] at e0 e1 e2
  obtain ⟨s, hs, _, _⟩ := DataW.trod_string Tryd.underlying9 e0
  obtain ⟨t, ht, _, _⟩ := DataW.trod_string Tryd.underlying9 e1
  obtain ⟨b, hb, _⟩ := DataW.trod_bool Tryd.underlying4 e2
  obtain ⟨a1, a2, a3, rfl⟩ : ∃ a b c, cs = [a, b, c] := by
    match cs, hl with
    | [a, b, c], _ => exact ⟨a, b, c, rfl⟩
  simp at hs ht hb
  subst hs ht hb
  exact ⟨⟨s, t, b⟩, rfl⟩
theorem argCell {b0 : Nat} {r : Reach} {v : Value} {d : DataW H} {p : List MemPlace} (h : Value.okWide Tryd.prog w r b0 42 v) (hd : DataW.Trod enc Tryd.prog w base sp held 42 v d p) : ∃ q : Pr, v = .agg (PC q) := by
  obtain ⟨cs, rfl, _⟩ := okWide_struct Tryd.underlying42 h
  obtain ⟨fuel, hf⟩ := hd
  obtain ⟨q, hq⟩ := pr_of_trod hf
  exact ⟨q, by rw [show cs = PC q from by simpa [Value.cells] using congrArg List.toArray hq]⟩
theorem argRg {b0 : Nat} {r : Reach} {v : Value} {d : DataW H} {p : List MemPlace} (h : Value.okWide Tryd.prog w r b0 24 v) (hd : DataW.Trod enc Tryd.prog w base sp held 24 v d p) : ∃ q : Rg, v = .agg #[.string q.lo, .string q.hi, .bool q.op] := by
  obtain ⟨cs, rfl, _⟩ := okWide_struct Tryd.underlying24 h
  obtain ⟨fuel, hf⟩ := hd
  obtain ⟨q, hq⟩ := rg_of_trod hf
  exact ⟨q, by rw [show cs = #[.string q.lo, .string q.hi, .bool q.op] from by simpa [Value.cells] using congrArg List.toArray hq]⟩
theorem cells_of_trod {fuel : Nat} {cs : List Value} {x : DataW H × List MemPlace} (h : DataW.trod enc Tryd.prog w base sp held fuel 22 cs = some x) :
    ∃ (a : Option Addr) (l : List Pr) (cap : Nat), cs = [.slice a l.length cap] ∧ l.length ≤ cap ∧ cap ≤ maxLen ∧ (a = none → cap = 0) ∧ SlP w a l := by
  obtain ⟨a, n, c, E, h1, h2, h3, h4, h5⟩ := elems_open PC PC_size Tryd.underlying22 ccell (by decide) (fun _ _ _ h => pr_of_trod h) h
  exact ⟨a, prs n E, c, by rw [prs_len]; exact h1, by rw [prs_len]; exact h2, h3, h4, slp_of_sln h5⟩
theorem ids_of_trod {fuel : Nat} {cs : List Value} {x : DataW H × List MemPlace} (h : DataW.trod enc Tryd.prog w base sp held fuel 25 cs = some x) :
    ∃ (a : Option Addr) (l : List Dg) (cap : Nat), cs = [.slice a l.length cap] ∧ l.length ≤ cap ∧ cap ≤ maxLen ∧ (a = none → cap = 0) ∧ SlD w a l := by
  obtain ⟨a, n, c, E, h1, h2, h3, h4, h5⟩ := elems_open (rowB 32) (fun f => rowB_size 32 f) Tryd.underlying25 cid (by decide) (fun _ _ _ h => arrB_of_trod Tryd.underlying46 Tryd.underlying5 cb cid h) h
  exact ⟨a, dgs n E, c, by rw [dgs_len]; exact h1, by rw [dgs_len]; exact h2, h3, h4, sld_of_sln h5⟩
theorem argCells {b0 : Nat} {r : Reach} {v : Value} {d : DataW H} {p : List MemPlace} (h : Value.okWide Tryd.prog w r b0 22 v) (hd : DataW.Trod enc Tryd.prog w base sp held 22 v d p) :
    ∃ (a : Option Addr) (l : List Pr) (cap : Nat), v = .slice a l.length cap ∧ l.length ≤ cap ∧ cap ≤ maxLen ∧ (a = none → cap = 0) ∧ SlP w a l := by
  obtain ⟨fuel, x, hx⟩ := arg_slice Tryd.underlying22 h hd
  obtain ⟨a, l, c, h1, h2⟩ := cells_of_trod hx
  exact ⟨a, l, c, by simpa using h1, h2⟩
theorem argStr {b0 : Nat} {r : Reach} {v : Value} {d : DataW H} {p : List MemPlace} (h : Value.okWide Tryd.prog w r b0 9 v) (hd : DataW.Trod enc Tryd.prog w base sp held 9 v d p) : ∃ s : ByteArray, v = .string s ∧ s.size ≤ maxLen := by
  obtain ⟨s, rfl⟩ := okWide_string Tryd.underlying9 h
  obtain ⟨fuel, hf⟩ := hd
  obtain ⟨s', h1, _, h2⟩ := DataW.trod_string Tryd.underlying9 hf
  simp [Value.cells] at h1
  subst h1
  exact ⟨_, rfl, h2⟩
theorem argSpan {b0 : Nat} {r : Reach} {v : Value} {d : DataW H} {p : List MemPlace} (h : Value.okWide Tryd.prog w r b0 27 v) (hd : DataW.Trod enc Tryd.prog w base sp held 27 v d p) :
    ∃ (t f : Int) (pa : Option Addr) (ps : List Pr) (pc : Nat) (qa : Option Addr) (qs : List Dg) (qc : Nat), v = .agg #[I t, I f, .slice pa ps.length pc, .slice qa qs.length qc] ∧
      (Lit.int .i64 t).wf = true ∧ (Lit.int .i64 f).wf = true ∧ ps.length ≤ pc ∧ pc ≤ maxLen ∧ (pa = none → pc = 0) ∧ SlP w pa ps ∧ qs.length ≤ qc ∧ qc ≤ maxLen ∧ (qa = none → qc = 0) ∧ SlD w qa qs := by
  obtain ⟨cs, rfl, _⟩ := okWide_struct Tryd.underlying27 h
  obtain ⟨fuel, hf⟩ := hd
  obtain ⟨xs, m, _, _, hl, hxl, hel⟩ := DataW.trod_struct Tryd.underlying27 hf
  rw [cspan] at hl
  have hxl' : xs.length = 4 := hxl
  obtain ⟨ds, hds⟩ : ∃ ds : List Value, (Value.cells (.agg cs)).toList = ds := ⟨_, rfl⟩
  rw [hds] at hl hel
  have e0 : DataW.trod enc Tryd.prog w base sp held m 3 ((ds.drop 0).take (Tryd.prog.cellsOf 3)) = xs[0]? := hel 0 _ rfl
  have e1 : DataW.trod enc Tryd.prog w base sp held m 3 ((ds.drop 1).take (Tryd.prog.cellsOf 3)) = xs[1]? := hel 1 _ rfl
  have e2 : DataW.trod enc Tryd.prog w base sp held m 22 ((ds.drop 2).take (Tryd.prog.cellsOf 22)) = xs[2]? := hel 2 _ rfl
  have e3 : DataW.trod enc Tryd.prog w base sp held m 25 ((ds.drop 3).take (Tryd.prog.cellsOf 25)) = xs[3]? := hel 3 _ rfl
  rw [c1int] at e0 e1
  rw [c1cells] at e2
  rw [c1ids] at e3
  rw [List.getElem?_eq_getElem (by omega)] at e0 e1 e2 e3
  obtain ⟨t, ht, _, wt⟩ := DataW.trod_int Tryd.underlying3 e0
  obtain ⟨f, hf, _, wf⟩ := DataW.trod_int Tryd.underlying3 e1
  obtain ⟨pa, ps, pc, hp, p1, p2, p3, p4⟩ := cells_of_trod e2
  obtain ⟨qa, qs, qc, hq, q1, q2, q3, q4⟩ := ids_of_trod e3
  obtain ⟨a1, a2, a3, a4, rfl⟩ : ∃ a b c d, ds = [a, b, c, d] := by
    match ds, hl with
    | [a, b, c, d], _ => exact ⟨a, b, c, d, rfl⟩
  simp at ht hf hp hq
  subst ht hf hp hq
  have hcs : cs = #[I t, I f, .slice pa ps.length pc, .slice qa qs.length qc] := by simpa [Value.cells] using congrArg List.toArray hds
  exact ⟨t, f, pa, ps, pc, qa, qs, qc, by rw [hcs], wt, wf, p1, p2, p3, p4, q1, q2, q3, q4⟩
end
end Go.Proofs.YtcdocklbpfdmeaaDoor

/- Collide's laws: how the rows' data open. -/
set_option linter.unusedSimpArgs false
set_option linter.unusedVariables false
set_option linter.unnecessarySimpa false
set_option maxRecDepth 20000
namespace Go.Proofs.YtcdocklbpfdmeaaDoor
open Go.RowKit Go.ChangeShapes Go.WideShapes Go.ChangeAt
def listF (n : Nat) (f : Nat → UInt8) : List UInt8 := (List.range n).map f
theorem listF_len (n : Nat) (f : Nat → UInt8) : (listF n f).length = n := by simp [listF]
theorem listF_at (n : Nat) (f : Nat → UInt8) (i : Nat) (h : i < n) : gF (listF n f) i = f i := by
  unfold gF listF; rw [List.getD_eq_getElem?_getD, List.getElem?_map, List.getElem?_range h]; rfl
theorem slt_of_ok {e : SlE} {w : World} (h : e.ok w) : SlT w e.v (listF e.n e.f) := by
  refine ⟨e.a, e.c, by rw [listF_len]; rfl, by rw [listF_len]; exact h.nc, h.cm, h.nil, ?_⟩
  unfold SlL
  rw [listF_len]
  exact SlB.congr h.at' fun i hi => (listF_at _ _ i hi).symm
def mkL {α : Type} (n : Nat) (E : Nat → α) : List α := (List.range n).map E
theorem mkL_len {α : Type} (n : Nat) (E : Nat → α) : (mkL n E).length = n := by simp [mkL]
theorem mkL_get {α : Type} {n : Nat} {E : Nat → α} {i : Nat} {e : α} (h : (mkL n E)[i]? = some e) : i < n ∧ E i = e := by
  have hi : i < n := by
    have := (List.getElem?_eq_some_iff.1 h).1
    rwa [mkL_len] at this
  unfold mkL at h
  rw [List.getElem?_map, List.getElem?_range hi] at h
  exact ⟨hi, by simpa using h⟩
section
variable {H : Type} {enc : TypeId × Value → H} {w : World} {base : Nat} {sp : Nat → Bool} {held : Bool}
theorem c1rb : Tryd.prog.cellsOf 35 = 1 := by kernel_rfl
theorem c1rrb : Tryd.prog.cellsOf 56 = 1 := by kernel_rfl
theorem cclash : Tryd.prog.cellsOf 37 = 2 := by kernel_rfl
theorem cclaim : Tryd.prog.cellsOf 67 = 3 := by kernel_rfl
theorem clist : Tryd.prog.cellsOf 63 = 2 := by kernel_rfl
theorem bytes_of_trod {fuel : Nat} {cs : List Value} {x : DataW H × List MemPlace} (h : DataW.trod enc Tryd.prog w base sp held fuel 35 cs = some x) : ∃ v l, cs = [v] ∧ SlT w v l := by
  obtain ⟨a, n, c, f, hv, h1, h2, h3, h4⟩ := slB_open Tryd.underlying35 Tryd.underlying5 cb h
  exact ⟨_, _, hv, slt_of_ok (e := ⟨a, n, c, f⟩) ⟨h1, h2, h3, h4⟩⟩
theorem rowsB_of_trod {fuel : Nat} {cs : List Value} {x : DataW H × List MemPlace} (h : DataW.trod enc Tryd.prog w base sp held fuel 56 cs = some x) :
    ∃ (a : Option Addr) (l : List (List UInt8)) (c : Nat), cs = [.slice a l.length c] ∧ l.length ≤ c ∧ c ≤ maxLen ∧ (a = none → c = 0) ∧ SlLs w a l := by
  obtain ⟨a, n, c, E, hv, h1, h2, h3, h4, h5⟩ := rows_open Tryd.underlying56 Tryd.underlying35 Tryd.underlying5 c1rb cb h
  refine ⟨a, mkL n fun i => listF (E i).n (E i).f, c, by rw [mkL_len]; exact hv, by rw [mkL_len]; exact h1, h2, h3, ?_⟩
  rcases h4.out with rfl | ⟨g, off, h6, h7, h8⟩
  · exact ⟨Or.inl rfl⟩
  · refine ⟨Or.inr ⟨g, off, h6, h7, fun i b hb => ?_⟩⟩
    obtain ⟨hi, rfl⟩ := mkL_get hb
    exact ⟨_, h8 i hi, slt_of_ok (h5 i hi)⟩
theorem clash_of_trod {fuel : Nat} {cs : List Value} {x : DataW H × List MemPlace} (h : DataW.trod enc Tryd.prog w base sp held fuel 37 cs = some x) : ∃ p : (Value × Value) × BL2, cs = [p.1.1, p.1.2] ∧ SlT w p.1.1 p.2.1 ∧ SlT w p.1.2 p.2.2 := by
  obtain ⟨xs, m, _, _, hl, hxl, hel⟩ := DataW.trod_struct Tryd.underlying37 h
  rw [cclash] at hl
  have hxl' : xs.length = 2 := hxl
  have e0 : DataW.trod enc Tryd.prog w base sp held m 35 ((cs.drop 0).take (Tryd.prog.cellsOf 35)) = xs[0]? := hel 0 _ rfl
  have e1 : DataW.trod enc Tryd.prog w base sp held m 35 ((cs.drop 1).take (Tryd.prog.cellsOf 35)) = xs[1]? := hel 1 _ rfl
  rw [c1rb] at e0 e1
  rw [List.getElem?_eq_getElem (by omega)] at e0 e1
  obtain ⟨v0, l0, h0, s0⟩ := bytes_of_trod e0
  obtain ⟨v1, l1, h1, s1⟩ := bytes_of_trod e1
  obtain ⟨a1, a2, rfl⟩ : ∃ a b, cs = [a, b] := by
    match cs, hl with
    | [a, b], _ => exact ⟨a, b, rfl⟩
  simp at h0 h1
  subst h0 h1
  exact ⟨((a1, a2), (l0, l1)), rfl, s0, s1⟩
theorem clashes_of_trod {fuel : Nat} {cs : List Value} {x : DataW H × List MemPlace} (h : DataW.trod enc Tryd.prog w base sp held fuel 57 cs = some x) :
    ∃ (a : Option Addr) (n c : Nat) (E : Nat → Value × Value) (F : Nat → BL2), cs = [.slice a n c] ∧ n ≤ c ∧ c ≤ maxLen ∧ SlC2 w a n E F := by
  obtain ⟨a, len, cap, rfl, h1, h2, h3, h4⟩ := slice_open Tryd.underlying57 cclash (by decide) h
  rcases h4 with rfl | ⟨g, off, rfl, hg, hi⟩
  · exact ⟨a, 0, cap, fun _ => (undef, undef), fun _ => ([], []), rfl, h1, h2, ⟨Or.inl rfl⟩⟩
  · have hx : ∀ i, ∃ p : (Value × Value) × BL2, i < len → cellsN w g (off + i * 2) 2 = some #[p.1.1, p.1.2] ∧ SlT w p.1.1 p.2.1 ∧ SlT w p.1.2 p.2.2 := by
      intro i
      by_cases hil : i < len
      · obtain ⟨ecs, f', y, hc, hy⟩ := hi i hil
        obtain ⟨p, rfl, hp⟩ := clash_of_trod hy
        refine ⟨p, fun _ => ⟨cellsN_some.2 ⟨rfl, fun j hj => ?_⟩, hp⟩⟩
        obtain ⟨v, hv1, hv2⟩ := hc j hj
        rw [Nat.add_assoc, hv2, ← hv1]
        have : j = 0 ∨ j = 1 := by omega
        rcases this with rfl | rfl <;> rfl
      · exact ⟨((undef, undef), ([], [])), fun h => absurd h hil⟩
    obtain ⟨E, hE⟩ := Classical.skolem.1 hx
    exact ⟨_, len, cap, fun i => (E i).1, fun i => (E i).2, rfl, h1, h2, ⟨Or.inr ⟨g, off, rfl, hg, fun i hi => hE i hi⟩⟩⟩
theorem argRowsB {b0 : Nat} {r : Reach} {v : Value} {d : DataW H} {p : List MemPlace} (h : Value.okWide Tryd.prog w r b0 56 v) (hd : DataW.Trod enc Tryd.prog w base sp held 56 v d p) :
    ∃ (a : Option Addr) (l : List (List UInt8)) (c : Nat), v = .slice a l.length c ∧ l.length ≤ c ∧ c ≤ maxLen ∧ (a = none → c = 0) ∧ SlLs w a l := by
  obtain ⟨fuel, x, hx⟩ := arg_slice Tryd.underlying56 h hd
  obtain ⟨a, l, c, hv, h⟩ := rowsB_of_trod hx
  exact ⟨a, l, c, by simpa using hv, h⟩
theorem argClashes {b0 : Nat} {r : Reach} {v : Value} {d : DataW H} {p : List MemPlace} (h : Value.okWide Tryd.prog w r b0 57 v) (hd : DataW.Trod enc Tryd.prog w base sp held 57 v d p) :
    ∃ (a : Option Addr) (n c : Nat) (E : Nat → Value × Value) (F : Nat → BL2), v = .slice a n c ∧ n ≤ c ∧ c ≤ maxLen ∧ SlC2 w a n E F := by
  obtain ⟨fuel, x, hx⟩ := arg_slice Tryd.underlying57 h hd
  obtain ⟨a, n, c, E, F, hv, h⟩ := clashes_of_trod hx
  exact ⟨a, n, c, E, F, by simpa using hv, h⟩
theorem argList {b0 : Nat} {r : Reach} {v : Value} {d : DataW H} {p : List MemPlace} (h : Value.okWide Tryd.prog w r b0 63 v) (hd : DataW.Trod enc Tryd.prog w base sp held 63 v d p) :
    ∃ (W : Int) (a : Option Addr) (l : List (List UInt8)) (c : Nat), v = .agg #[I W, .slice a l.length c] ∧ l.length ≤ c ∧ c ≤ maxLen ∧ (a = none → c = 0) ∧ SlLs w a l := by
  obtain ⟨cs, rfl, _⟩ := okWide_struct Tryd.underlying63 h
  obtain ⟨fuel, hf⟩ := hd
  obtain ⟨xs, m, _, _, hl, hxl, hel⟩ := DataW.trod_struct Tryd.underlying63 hf
  rw [clist] at hl
  have hxl' : xs.length = 2 := hxl
  obtain ⟨ds, hds⟩ : ∃ ds : List Value, (Value.cells (.agg cs)).toList = ds := ⟨_, rfl⟩
  rw [hds] at hl hel
  have e0 : DataW.trod enc Tryd.prog w base sp held m 3 ((ds.drop 0).take (Tryd.prog.cellsOf 3)) = xs[0]? := hel 0 _ rfl
  have e1 : DataW.trod enc Tryd.prog w base sp held m 56 ((ds.drop 1).take (Tryd.prog.cellsOf 56)) = xs[1]? := hel 1 _ rfl
  rw [c1int] at e0
  rw [c1rrb] at e1
  rw [List.getElem?_eq_getElem (by omega)] at e0 e1
  obtain ⟨W, h0, _⟩ := DataW.trod_int Tryd.underlying3 e0
  obtain ⟨a, l, c, h1, h⟩ := rowsB_of_trod e1
  obtain ⟨a1, a2, rfl⟩ : ∃ a b, ds = [a, b] := by
    match ds, hl with
    | [a, b], _ => exact ⟨a, b, rfl⟩
  simp at h0 h1
  subst h0 h1
  have hcs : cs = #[I W, .slice a l.length c] := by simpa [Value.cells] using congrArg List.toArray hds
  exact ⟨W, a, l, c, by rw [hcs], h⟩
end
end Go.Proofs.YtcdocklbpfdmeaaDoor
