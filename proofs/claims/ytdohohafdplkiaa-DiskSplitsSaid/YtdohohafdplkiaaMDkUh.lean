import Derived.Test.YtdohohafdplkiaaMDkUd
import Derived.Shelf.RegionOpenPlain

/- Rows of bools: copy, make. -/
set_option linter.unusedSimpArgs false
set_option linter.unusedVariables false
set_option maxRecDepth 20000
namespace Go.Proofs.Ytdohohafdplkiaa
open Go.RowKit
theorem copyinfo_bo : (Try.prog.info? 4).map (·.size) = some 1 := by kernel_rfl
@[go_sem] theorem copy_bo (ty sT b o b' o' n c n' c' : Nat) (w : World) : copyRun Try.prog #[35, sT] ty (.slice (some ⟨b, o, none⟩) n c) (.slice (some ⟨b', o', none⟩) n' c') w =
      match cellsN w b' o' (min n' n * 1) with
      | some cs => if ((cellsN w b o (min n' n * 1)).isSome && !frozenN w b o (min n' n * 1) && oneCells cs) = true then .ok (.value (.int .i64 (min n' n : Nat))) (w.setCells b o cs.toList)
        else copyRaw Try.prog #[35, sT] ty (.slice (some ⟨b, o, none⟩) n c) (.slice (some ⟨b', o', none⟩) n' c') w
      | none => copyRaw Try.prog #[35, sT] ty (.slice (some ⟨b, o, none⟩) n c) (.slice (some ⟨b', o', none⟩) n' c') w := copyRun_wide Try.underlying35 copyinfo_bo ty b o b' o' n c n' c' w
@[go_sem] theorem make_bo (l c : Int) (w : World) : (Instr.makeSlice 35 (.int .i64 l) (.int .i64 c)).run Try.prog w = if 0 ≤ l ∧ l ≤ c ∧ ((1 : Nat) : Int) * c ≤ 281474976710656 ∧ c ≤ 9223372036854775807 then
    .ok (.slice (some ⟨w.heap.size, 0, none⟩) l.toNat c.toNat) (w.alloc (.cells (manyC (.bool false) (c.toNat * 1)) 4)) else makeRaw Try.prog 35 (.int .i64 l) (.int .i64 c) w := make_rule appBo l c w
end Go.Proofs.Ytdohohafdplkiaa

/- All bools yes: slices.Repeat of one (draft). -/
set_option linter.unusedSimpArgs false
set_option linter.unusedVariables false
set_option maxRecDepth 20000
namespace Go.Proofs.Ytdohohafdplkiaa
open Go.RowKit
/-- n bools, the first k of them true. -/
def repB (n k : Nat) : Array Value := ((List.replicate (min k n) true ++ List.replicate (n - k) false).flatMap KBo).toArray
theorem repB_get (n k j : Nat) : (repB n k)[j]? = if j < n then some (.bool (decide (j < k))) else none := by
  unfold repB
  rw [List.getElem?_toArray, show (List.replicate (min k n) true ++ List.replicate (n - k) false).flatMap KBo = (List.replicate (min k n) true ++ List.replicate (n - k) false).map Value.bool from by
    generalize List.replicate (min k n) true ++ List.replicate (n - k) false = l
    induction l with
    | nil => rfl
    | cons b l ih => rw [List.flatMap_cons, ih]; rfl]
  rw [List.getElem?_map, List.getElem?_append, List.length_replicate]
  by_cases h1 : j < min k n
  · rw [if_pos h1, List.getElem?_replicate, if_pos h1, if_pos (by omega)]; simp; omega
  · rw [if_neg h1, List.getElem?_replicate]
    by_cases h2 : j < n
    · rw [if_pos h2, if_pos (by omega)]; simp; omega
    · rw [if_neg h2, if_neg (by omega)]; rfl
@[simp] theorem repB_size (n k : Nat) : (repB n k).size = n := by
  have h1 := repB_get n k n
  rw [if_neg (by omega)] at h1
  rcases Nat.lt_or_ge 0 n with h | h
  · have h2 := repB_get n k (n - 1)
    rw [if_pos (by omega)] at h2
    have := (Array.getElem?_eq_some_iff.1 h2).1
    have := Array.getElem?_eq_none_iff.1 h1
    omega
  · have := Array.getElem?_eq_none_iff.1 h1
    omega
theorem repB_step {n k m : Nat} (hm : k + m ≤ n) : spliceA (repB n k) k (repB m m).toList = repB n (k + m) := by
  apply Array.ext_getElem?
  intro j
  rw [spliceA_get, Array.getElem?_toList, repB_get, repB_get, repB_get, Array.length_toList, repB_size, repB_size]
  by_cases h1 : k ≤ j ∧ j < k + m
  · rw [if_pos ⟨h1.1, h1.2, by omega⟩, if_pos (by omega), if_pos (by omega)]
    congr 2
    simp; omega
  · rw [if_neg (fun h => h1 ⟨h.1, h.2.1⟩)]
    by_cases h2 : j < n
    · rw [if_pos h2, if_pos h2]
      congr 2
      simp; omega
    · rw [if_neg h2, if_neg h2]
/-- A part of the block that is all true. -/
theorem repB_part {w : World} {b n k m : Nat} {t : TypeId} (h : w.heap[b]? = some (.cells (repB n k) t (0, 0))) (hm : m ≤ k) (hk : k ≤ n) : cellsN w b 0 m = some (repB m m) := by
  refine cellsN_some.2 ⟨by simp, fun j hj => ?_⟩
  rw [Nat.zero_add, cell_of_row w b j _ _ _ h, repB_get, repB_get, if_pos (by omega), if_pos hj]
  congr 2
  simp; omega
end Go.Proofs.Ytdohohafdplkiaa

/- All bools yes: slices.Repeat of one, walked (n at least 1). -/
set_option linter.unusedSimpArgs false
set_option linter.unusedVariables false
set_option maxRecDepth 20000
namespace Go.Proofs.Ytdohohafdplkiaa
open Go.RowKit
@[go_sem] theorem manyC_bo (n : Nat) : manyC (.bool false) n = repB n 0 := by
  apply Array.toList_inj.1
  have := manyC_flat KBo_len (by omega) (z := .bool false) (a := false) rfl n
  rw [Nat.mul_one] at this
  rw [this]
  unfold repB
  simp
set_option maxHeartbeats 1000000 in
theorem repeat_any (n : Nat) (h0 : n ≤ 100000) (hn1 : 1 ≤ n) (w : World) (g : Nat) (hg : w.heap[g]? = some (.cells #[.bool true] 4 (0, 0))) :
    Calls Try.prog 52 #[.slice (some ⟨g, 0, none⟩) 1 1, I n] w fun e w' => e = .returned (.slice (some ⟨w.heap.size, 0, none⟩) n n) ∧ w'.heap[w.heap.size]? = some (.cells (repB n n) 4 (0, 0)) ∧ Ex w w' := by
  have HM : Hid (∀ W, Calls Try.prog 59 #[.int .u64 1, .int .u64 n] W fun e w' => e = .returned (.tuple #[.int .u64 0, .int .u64 n]) ∧ w' = W) := Lib.hid fun W => by
    have := mul_any 1 n (by omega) (by omega) W
    rw [Nat.one_mul, Nat.div_eq_of_lt (by omega), Nat.mod_eq_of_lt (by omega)] at this
    exact this
  have hgz := (Array.getElem?_eq_some_iff.1 hg).1
  have hc : w.cell? ⟨g, 0, none⟩ = some (.bool true) := cell_of_row w g 0 _ _ _ hg
  have hmin : min 1 n = 1 := by omega
  have hcn : cellsN w g 0 1 = some #[.bool true] := cellsN_some.2 ⟨rfl, fun j hj => by rw [Nat.zero_add]; exact cell_of_row w g j _ _ _ hg⟩
  clear hg
  go_enter Try.func52, Try.ntmps52
  go_wp2_with (go_at_call 59; (with_reducible refine (HM.out _).mono ?_); rintro e w3 ⟨rfl, hw3⟩; subst w3)
  have hst : spliceA (repB n 0) 0 [.bool true] = repB n 1 := by
    have := repB_step (n := n) (k := 0) (m := 1) (by omega)
    rw [Nat.zero_add] at this
    exact this
  rw [hst]
  go_loopw [8] (fun i W => ∃ k : Nat, 1 ≤ k ∧ k ≤ n ∧ i = I k ∧ Hid (W.heap[w.heap.size]? = some (.cells (repB n k) 4 (0, 0))) ∧ Hid (Ex w W)) (fun i _ => n - (intOf i).toNat)
  case atStart => exact ⟨1, by omega, hn1, rfl, Lib.hid (heap_alloc_new _ _), Lib.hid (ex_alloc (ex_refl _) _)⟩
  case round =>
    obtain ⟨k, hk1, hk, rfl, hB, hX⟩ := hrel
    by_cases hlt : k < n
    · have hlt2 : (k : Int) < n := by omega
      obtain ⟨m, hm⟩ : ∃ m, min k (n - k) = m := ⟨_, rfl⟩
      have hm1 : 1 ≤ m ∧ m ≤ k ∧ k + m ≤ n := by omega
      have c1 := repB_part hB.out hm1.2.1 hk
      have c2 : cellsN wr w.heap.size k m = some (repB m 0) := cellsN_some.2 ⟨by simp, fun j hj => by
        rw [cell_of_row wr _ (k + j) _ _ _ hB.out, repB_get, repB_get, if_pos (by omega), if_pos hj]; congr 2; simp⟩
      have f2 : frozenN wr w.heap.size k m = false := frozenN_false.2 fun j hj => by simp [World.frozen?, hB.out]
      have o1 : oneCells (repB m m) = true := Array.all_eq_true_iff_forall_mem.2 fun v hv => by unfold repB at hv; exact KBo_one _ v (List.mem_toArray.1 hv)
      have nk : ¬ n = k := by omega
      go_wp2
      have mixed : Try.prog.follows .mixedOrders = true := by kernel_rfl
      go_big_region_o
      go_wp2
      refine ⟨⟨k + m, by omega, by omega, by go_num, Lib.hid ?_, Lib.hid (ex_trans (ex_setCellsK hX.out (Nat.le_refl _) _ _) (ex_drew (ex_refl _)))⟩, by simp [intOf]; omega⟩
      refine ex_block (ex_drew (ex_refl _)) ?_
      have := setCells_block w.heap.size 4 (0, 0) (repB m m).toList k wr _ hB.out
      rwa [repB_step hm1.2.2] at this
    · obtain rfl : k = n := by omega
      go_wp2
      go_ret
      exact ⟨rfl, hB.out, hX.out⟩
end Go.Proofs.Ytdohohafdplkiaa

/- All bools yes. -/
set_option linter.unusedSimpArgs false
set_option linter.unusedVariables false
set_option maxRecDepth 20000
namespace Go.Proofs.Ytdohohafdplkiaa
open Go.RowKit
theorem yesB_any (n : Nat) (h0 : n ≤ 100000) (hn1 : 1 ≤ n) (w : World) :
    Calls Try.prog 31 #[I n] w fun e w' => e = .returned (.slice (some ⟨w.heap.size + 1, 0, none⟩) n n) ∧ w'.heap[w.heap.size + 1]? = some (.cells (repB n n) 4 (0, 0)) ∧ Ex w w' := by
  have HR := Lib.hid (repeat_any n h0 hn1 (w.alloc (.cells #[.bool true] 4)) w.heap.size (heap_alloc_new w _))
  rw [World.size_alloc] at HR
  go_enter Try.func31, Try.ntmps31
  go_wp2_with (go_at_call 52; (with_reducible refine HR.out.mono ?_); rintro e w2 ⟨rfl, hb, k2⟩; replace hb := Lib.hid hb)
  go_ret
  exact ⟨rfl, hb.out, ex_trans (ex_alloc (ex_refl _) _) k2⟩
end Go.Proofs.Ytdohohafdplkiaa

/- The document's disk, as a value. -/
set_option linter.unusedSimpArgs false
set_option linter.unusedVariables false
set_option maxRecDepth 20000
namespace Go.Proofs.Ytdohohafdplkiaa
open Go.RowKit
/-- The document's disk: a value of six cells, whose slices are read in w. (Fields 2 and 3: see Made; which is armed and which is damaged: see Asked.) -/
structure RdV (w : World) (v : Value) (d : Dk) : Prop where
  out : ∃ hv qv, v = .agg #[hv, qv, I d.ar, I d.dm, .bool d.dark, I (d.ops : Nat)] ∧ SlV1 KK 64 w hv d.has ∧ SlV1 KQ 65 w qv d.qu
theorem RdV.ex {w w' : World} {v : Value} {d : Dk} (h : RdV w v d) (k : Ex w w') : RdV w' v d := by
  obtain ⟨hv, qv, e, h1, h2⟩ := h.out
  exact ⟨hv, qv, e, h1.ex k, h2.ex k⟩
/-- The same; where its slices lie. -/
structure RdN (N : Nat → Prop) (w : World) (v : Value) (d : Dk) : Prop where
  out : ∃ hv qv, v = .agg #[hv, qv, I d.ar, I d.dm, .bool d.dark, I (d.ops : Nat)] ∧ hv.oneCell' = true ∧ qv.oneCell' = true ∧ SlV1 KK 64 w hv d.has ∧ SlV1 KQ 65 w qv d.qu ∧ (d.has ≠ [] → ∀ g, hv.ownBlock = some g → N g) ∧ (d.qu ≠ [] → ∀ g, qv.ownBlock = some g → N g)
theorem SlV1.one {α : Type} {K : α → List Value} {s : Nat} {w : World} {v : Value} {l : List α} (h : SlV1 K s w v l) : v.oneCell' = true := by
  obtain ⟨a, c, rfl, _⟩ := h.out; rfl
theorem RdN.mk' {N : Nat → Prop} {w : World} {hv qv : Value} {d : Dk} (h1 : SlV1 KK 64 w hv d.has) (h2 : SlV1 KQ 65 w qv d.qu) (n1 : ∀ g, hv.ownBlock = some g → N g) (n2 : ∀ g, qv.ownBlock = some g → N g) : RdN N w (.agg #[hv, qv, I d.ar, I d.dm, .bool d.dark, I (d.ops : Nat)]) d :=
  ⟨hv, qv, rfl, h1.one, h2.one, h1, h2, fun _ => n1, fun _ => n2⟩
theorem RdN.mkG {N : Nat → Prop} {w : World} {hv qv : Value} {d : Dk} (h1 : SlV1 KK 64 w hv d.has) (h2 : SlV1 KQ 65 w qv d.qu) (n1 : d.has ≠ [] → ∀ g, hv.ownBlock = some g → N g) (n2 : d.qu ≠ [] → ∀ g, qv.ownBlock = some g → N g) : RdN N w (.agg #[hv, qv, I d.ar, I d.dm, .bool d.dark, I (d.ops : Nat)]) d :=
  ⟨hv, qv, rfl, h1.one, h2.one, h1, h2, n1, n2⟩
theorem SlV1.keepG {α : Type} {K : α → List Value} {s : Nat} {w w' : World} {v : Value} {l : List α} {N : Nat → Prop} (h : SlV1 K s w v l) (hz : w.heap.size ≤ w'.heap.size) (n : l ≠ [] → ∀ g, v.ownBlock = some g → N g) (k : ∀ g, N g → w'.heap[g]? = w.heap[g]?) : SlV1 K s w' v l := by
  by_cases hl : l = []
  · subst hl
    obtain ⟨a, c, e, h1, h2, h3, _⟩ := h.out
    exact ⟨a, c, e, h1, h2, h3, SlR.nil _ _ _ _⟩
  · exact h.keep hz fun g hg => k g (n hl g hg)
theorem RdN.rd {N : Nat → Prop} {w : World} {v : Value} {d : Dk} (h : RdN N w v d) : RdV w v d := by
  obtain ⟨hv, qv, e, _, _, h1, h2, _⟩ := h.out
  exact ⟨hv, qv, e, h1, h2⟩
theorem RdN.ex {N : Nat → Prop} {w w' : World} {v : Value} {d : Dk} (h : RdN N w v d) (k : Ex w w') : RdN N w' v d := by
  obtain ⟨hv, qv, e, o1, o2, h1, h2, n1, n2⟩ := h.out
  exact ⟨hv, qv, e, o1, o2, h1.ex k, h2.ex k, n1, n2⟩
theorem RdN.mono {N N' : Nat → Prop} {w : World} {v : Value} {d : Dk} (h : RdN N w v d) (k : ∀ g, N g → N' g) : RdN N' w v d := by
  obtain ⟨hv, qv, e, o1, o2, h1, h2, n1, n2⟩ := h.out
  exact ⟨hv, qv, e, o1, o2, h1, h2, fun e g hg => k g (n1 e g hg), fun e g hg => k g (n2 e g hg)⟩
/-- Whatever leaves its slices' blocks alone. -/
theorem RdN.keep {N : Nat → Prop} {w w' : World} {v : Value} {d : Dk} (h : RdN N w v d) (hz : w.heap.size ≤ w'.heap.size) (k : ∀ g, N g → w'.heap[g]? = w.heap[g]?) : RdN N w' v d := by
  obtain ⟨hv, qv, e, o1, o2, h1, h2, n1, n2⟩ := h.out
  exact ⟨hv, qv, e, o1, o2, h1.keepG hz n1 k, h2.keepG hz n2 k, n1, n2⟩
theorem RdN.lt {N : Nat → Prop} {w : World} {v : Value} {d : Dk} (h : RdN N w v d) : RdN (fun g => N g ∧ g < w.heap.size) w v d := by
  obtain ⟨hv, qv, e, o1, o2, h1, h2, n1, n2⟩ := h.out
  exact ⟨hv, qv, e, o1, o2, h1, h2, fun e g hg => ⟨n1 e g hg, h1.lt (List.length_pos_iff.2 e) hg⟩, fun e g hg => ⟨n2 e g hg, h2.lt (List.length_pos_iff.2 e) hg⟩⟩
def NF (N : Nat → Prop) (w : World) (g : Nat) : Prop := N g ∨ w.heap.size ≤ g
/-- What a function makes of a disk: elder slices, or its own. -/
def PostN (N : Nat → Prop) (W : World) (d : Dk) (e : Ending) (w' : World) : Prop := ∃ v, e = .returned v ∧ RdN (NF N W) w' v d ∧ Ex W w'
def PostNE (N : Nat → Prop) (W : World) (r : Dk × Int) (e : Ending) (w' : World) : Prop := ∃ v, e = .returned (.tuple #[v, I r.2]) ∧ RdN (NF N W) w' v r.1 ∧ Ex W w'
def PostNB (N : Nat → Prop) (W : World) (r : Dk × Bk × Int) (e : Ending) (w' : World) : Prop := ∃ v, e = .returned (.tuple #[v, .agg (rowB 64 (bkF r.2.1)), I r.2.2]) ∧ RdN (NF N W) w' v r.1 ∧ Ex W w'
end Go.Proofs.Ytdohohafdplkiaa
