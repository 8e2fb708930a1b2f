import Derived.Test.YtabjamkkhlbajaaDoorMDg
import Derived.Test.YtabjamkkhlbajaaDoorMCopyS
import Derived.Test.YtabjamkkhlbajaaDoorMLittle
import Derived.Shelf.Lay
import Derived.Shelf.Bytes.SlJoin
import Derived.Ground.SlbNamesProg

/- The log's bytes: bytes.Join of one part, of two; the short digest. -/
set_option linter.unusedSimpArgs false
set_option linter.unusedVariables false
set_option linter.unnecessarySimpa false
set_option maxRecDepth 20000
namespace Go.Proofs.YtabjamkkhlbajaaDoor
open Go.RowKit Go.Shelf
theorem info_clm : (Tryd.prog.info? 62).map (·.size) = some 9 := by kernel_rfl
@[go_sem] theorem load_clm (b o : Nat) (w : World) : loadRun Tryd.prog 62 (.pointer (some ⟨b, o, none⟩)) w = match cellsN w b o 9 with | some cs => .ok (.value (.agg cs)) w | none => loadRaw Tryd.prog 62 (.pointer (some ⟨b, o, none⟩)) w := loadRun_row Tryd.underlying62 rfl info_clm b o w
@[go_sem] theorem store_clm (b o : Nat) (vs : Array Value) (w : World) : storeRun Tryd.prog 62 (.pointer (some ⟨b, o, none⟩)) (.agg vs) w = if (vs.size == 9 && (cellsN w b o 9).isSome && !frozenN w b o 9 && oneCells vs) = true then .ok .skip (w.setCells b o vs.toList) else storeRaw Tryd.prog 62 (.pointer (some ⟨b, o, none⟩)) (.agg vs) w := storeRun_row info_clm b o vs w
theorem info_mrk : (Tryd.prog.info? 60).map (·.size) = some 4 := by kernel_rfl
@[go_sem] theorem load_mrk (b o : Nat) (w : World) : loadRun Tryd.prog 60 (.pointer (some ⟨b, o, none⟩)) w = match cellsN w b o 4 with | some cs => .ok (.value (.agg cs)) w | none => loadRaw Tryd.prog 60 (.pointer (some ⟨b, o, none⟩)) w := loadRun_row Tryd.underlying60 rfl info_mrk b o w
@[go_sem] theorem store_mrk (b o : Nat) (vs : Array Value) (w : World) : storeRun Tryd.prog 60 (.pointer (some ⟨b, o, none⟩)) (.agg vs) w = if (vs.size == 4 && (cellsN w b o 4).isSome && !frozenN w b o 4 && oneCells vs) = true then .ok .skip (w.setCells b o vs.toList) else storeRaw Tryd.prog 60 (.pointer (some ⟨b, o, none⟩)) (.agg vs) w := storeRun_row info_mrk b o vs w
theorem info_wlt : (Tryd.prog.info? 64).map (·.size) = some 12 := by kernel_rfl
@[go_sem] theorem load_wlt (b o : Nat) (w : World) : loadRun Tryd.prog 64 (.pointer (some ⟨b, o, none⟩)) w = match cellsN w b o 12 with | some cs => .ok (.value (.agg cs)) w | none => loadRaw Tryd.prog 64 (.pointer (some ⟨b, o, none⟩)) w := loadRun_row Tryd.underlying64 rfl info_wlt b o w
@[go_sem] theorem store_wlt (b o : Nat) (vs : Array Value) (w : World) : storeRun Tryd.prog 64 (.pointer (some ⟨b, o, none⟩)) (.agg vs) w = if (vs.size == 12 && (cellsN w b o 12).isSome && !frozenN w b o 12 && oneCells vs) = true then .ok .skip (w.setCells b o vs.toList) else storeRaw Tryd.prog 64 (.pointer (some ⟨b, o, none⟩)) (.agg vs) w := storeRun_row info_wlt b o vs w
shelf_lay SlLaysJ.n14 Slb 14 at Tryd as laysJ14
theorem cellW_lt {w : World} {g o : Nat} {v : Value} (h : w.cell? ⟨g, o, none⟩ = some v) : g < w.heap.size := by
  rcases Nat.lt_or_ge g w.heap.size with h1 | h1
  · exact h1
  · simp [World.cell?, Array.getElem?_eq_none h1] at h
theorem block_cellF {w : World} {b o : Nat} {cs : Array Value} {t : TypeId} {v : Value} (h : w.heap[b]? = some (.cells cs t (0, 0))) (hv : cs[o]? = some v) : w.cell? ⟨b, o, none⟩ = some v ∧ w.frozen? ⟨b, o, none⟩ = false :=
  ⟨by rw [cell_of_row w b o _ _ _ h]; exact hv, by simp [World.frozen?, h]⟩
theorem block_cellsF {w : World} {b n : Nat} {cs : Array Value} {t : TypeId} (h : w.heap[b]? = some (.cells cs t (0, 0))) (hn : cs.size = n) : cellsN w b 0 n = some cs ∧ frozenN w b 0 n = false ∧ b < w.heap.size := by
  subst hn
  refine ⟨cellsN_some.2 ⟨rfl, fun j hj => ?_⟩, frozenN_false.2 fun j hj => ?_, (Array.getElem?_eq_some_iff.1 h).1⟩
  · rw [Nat.zero_add, cell_of_row w b j cs t (0, 0) h]
  · simp [World.frozen?, h]
theorem ex_setCells {A w : World} (k : Ex A w) {b : Nat} (hb : A.heap.size ≤ b) (o : Nat) (vs : List Value) : Ex A (w.setCells b o vs) :=
  ex_of_below ((ex_below k).trans (setCells_below hb vs o w))
theorem slt_holds {w : World} {v : Value} {l : List UInt8} (h : SlT w v l) : Lib.HoldsBytes w v l := by
  obtain ⟨a, c, rfl, h1, h2, h3, h4⟩ := h.out
  refine ⟨a, c, rfl, fun e => ?_, fun ad e i x hx => ?_⟩
  · have := h3 e
    exact List.eq_nil_of_length_eq_zero (by omega)
  · subst e
    have := sll_news h4 (ex_refl w) i (.int .u8 (x.toNat : Int)) (by unfold Lib.byteCells; rw [List.getElem?_map, hx]; rfl)
    exact this
theorem fresh_slt {B0 : Nat} {w : World} {v : Value} {l : List UInt8} (h : Lib.FreshBytes B0 w v l) : SlT w v l := by
  obtain ⟨g, cap, zs, rfl, _, h1, h2, hz, hr, hb, hc, _⟩ := h
  refine ⟨some ⟨g, 0, none⟩, cap, rfl, h1, h2, (fun e => by cases e), ?_⟩
  rcases Nat.eq_zero_or_pos l.length with h0 | h0
  · rw [List.eq_nil_of_length_eq_zero h0]; exact SlB.zero _ _ _
  · have hg := cellW_lt (hc 0 (by omega))
    refine SlB.mk' hg fun j hj => ?_
    rw [Nat.zero_add, hc j (by omega)]
    have hl : l[j]? = (Lib.bytesOf (zs.take l.length))[j]? := by rw [hb]
    have hzj : zs[j]? = some zs[j] := List.getElem?_eq_getElem (by omega)
    have hrj := hr zs[j] (List.getElem_mem _)
    unfold gF
    rw [List.getD_eq_getElem?_getD, List.getD_eq_getElem?_getD, hzj, hl]
    unfold Lib.bytesOf
    rw [List.getElem?_map, List.getElem?_take_of_lt hj, hzj]
    simp only [Option.map_some, Option.getD_some]
    congr 2
    unfold bn
    simp [UInt8.toNat_ofNat']
    omega
def PostTx (W : World) (l : List UInt8) (e : Ending) (w' : World) : Prop := ∃ v, e = .returned v ∧ SlT w' v l ∧ ∃ X, w' = wx W X
theorem join1_any {w : World} {g : Nat} {v : Value} {l : List UInt8} (hc : w.cell? ⟨g, 0, none⟩ = some v) (hs : SlT w v l) (hl : l.length ≤ 1000000) :
    Calls Tryd.prog 57 #[.slice (some ⟨g, 0, none⟩) 1 1, .slice none 0 0] w (PostTx w l) := by
  have hs2 := slt_holds hs
  obtain ⟨a, c, rfl, h1, h2, h3, h4⟩ := hs.out
  obtain ⟨_, _, hv, hn, hcl⟩ := hs2
  cases hv
  rcases Nat.eq_zero_or_pos l.length with h0 | h0
  · obtain rfl := List.eq_nil_of_length_eq_zero h0
    exact (Any.bytes_Join_one_empty laysJ14 g 0 1 a c (.slice none 0 0) w hc).mono fun e w' ⟨he, hw⟩ => by
      subst hw
      exact ⟨_, he, slt_nil _, ex_refl _⟩
  · cases a with
    | none => have := hn rfl; rw [this] at h0; simp at h0
    | some ad =>
      exact (Any.bytes_Join_one laysJ14 g 0 1 ad c l (.slice none 0 0) w hc (fun i x hx => hcl ad rfl i x hx) h0 (by omega)).mono fun e w' ⟨v', he, hf, hb⟩ => ⟨v', he, fresh_slt hf, ex_of_below hb⟩
theorem join2_any {w : World} {g : Nat} {v v2 : Value} {l l2 : List UInt8} (hc : w.cell? ⟨g, 0, none⟩ = some v) (hc2 : w.cell? ⟨g, 1, none⟩ = some v2) (hs : SlT w v l) (hs2 : SlT w v2 l2) (hl : l.length + l2.length ≤ 1000000) :
    Calls Tryd.prog 57 #[.slice (some ⟨g, 0, none⟩) 2 2, .slice none 0 0] w (PostTx w (l ++ l2)) := by
  have hP : Lib.PartsAt w ⟨g, 0, none⟩ [v, v2] [l, l2] := by
    refine ⟨rfl, fun i x hx => ?_, fun i x y hx hy => ?_⟩
    · match i with
      | 0 => simp at hx; subst hx; simpa [Addr.add] using hc
      | 1 => simp at hx; subst hx; simpa [Addr.add] using hc2
      | i + 2 => simp at hx
    · match i with
      | 0 => simp at hx hy; subst hx hy; exact slt_holds hs
      | 1 => simp at hx hy; subst hx hy; exact slt_holds hs2
      | i + 2 => simp at hx
  have hS : Lib.HoldsBytes w (.slice none 0 0) [] := ⟨none, 0, rfl, fun _ => rfl, fun a h => by cases h⟩
  have hj : Lib.join [l, l2] [] = l ++ l2 := by simp [Lib.join, List.intercalate]
  have := Any.bytes_Join_many laysJ14 g 0 2 2 [v, v2] [l, l2] (.slice none 0 0) [] w rfl (Nat.le_refl _) hP (Nat.le_refl _) hS (by omega) (by simp [Lib.lens]; omega)
  rw [hj] at this
  exact this.mono fun e w' ⟨v', he, hf, hb⟩ => ⟨v', he, fresh_slt hf, ex_of_below hb⟩
end Go.Proofs.YtabjamkkhlbajaaDoor
