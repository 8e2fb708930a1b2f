import Derived.Test.YtdohohafdplkiaaMDkUa
import Derived.Shelf.Lay
import Derived.Shelf.Bits.Mul64
import Derived.Ground.NamesProg

/- The full product of two numbers: the kit's. -/
set_option linter.unusedSimpArgs false
set_option linter.unusedVariables false
set_option maxRecDepth 20000
namespace Go.Proofs.Ytdohohafdplkiaa
open Go.RowKit Go.Shelf
shelf_lay Lays.n212 Nm 212 at Try as lays212
theorem mul_any (x y : Nat) (hx : x < 18446744073709551616) (hy : y < 18446744073709551616) (w : World) :
    Calls Try.prog 59 #[.int .u64 x, .int .u64 y] w fun e w' => e = .returned (.tuple #[.int .u64 ((x * y / 18446744073709551616 : Nat) : Int), .int .u64 ((x * y % 18446744073709551616 : Nat) : Int)]) ∧ w' = w := Any.bits_Mul lays212 x y hx hy w
end Go.Proofs.Ytdohohafdplkiaa

/- What is read behind a crash. -/
set_option linter.unusedSimpArgs false
set_option linter.unusedVariables false
set_option maxRecDepth 20000
namespace Go.Proofs.Ytdohohafdplkiaa
open Go.RowKit
/-- A disk behind a crash, with m requests counted. -/
def vD (d : Dk) (keep : List Bool) (m : Nat) : Dk := { crashD d keep with ops := m }
theorem crash_vD (d : Dk) (keep : List Bool) : crashD d keep = vD d keep d.ops := rfl
theorem vD_read (d : Dk) (keep : List Bool) (m : Nat) {i : Nat} (hi : i < d.has.length) : readD (vD d keep m) i = (vD d keep (m + 1), (viewD d keep).getD i zeroB, 0) := by
  have hl : (vD d keep m).has.length = d.has.length := view_len d keep
  have hr : reqD (vD d keep m) (i : Int) false = (vD d keep m, 0) := by
    unfold reqD
    rw [if_neg (by simp [vD, crashD]), if_neg (by rw [hl]; omega), if_neg (by simp), if_neg (by simp [vD, crashD])]
    simp [vD, crashD, down]
  unfold readD
  rw [hr, if_pos rfl]
  refine Prod.ext rfl (Prod.ext ?_ rfl)
  show readsD (vD d keep m) i = _
  unfold readsD
  rw [show lastD (vD d keep m).qu i = none from rfl]
  simp only [Option.getD_none, Int.toNat_natCast]
  rfl
/-- Nine blocks in a row. -/
def nineF (l : List Bk) (j : Nat) : UInt8 := bkF (l.getD (j / 64) zeroB) (j % 64)
def nineP (l : List Bk) (k j : Nat) : UInt8 := if j < 64 * k then nineF l j else 0
theorem nineP_step (l : List Bk) {k : Nat} (hk : k < 9) : spliceA (rowB 576 (nineP l k)) (64 * k) (rowB 64 (bkF (l.getD k zeroB))).toList = rowB 576 (nineP l (k + 1)) := by
  apply Array.ext_getElem?
  intro j
  rw [spliceA_get, Array.getElem?_toList, rowB_get, rowB_get, rowB_get]
  simp only [Array.length_toList, rowB_size]
  by_cases h1 : 64 * k ≤ j ∧ j < 64 * k + 64
  · have h2 : j < 576 := by omega
    rw [if_pos ⟨h1.1, h1.2, h2⟩, if_pos (by omega), if_pos h2]
    unfold nineP nineF
    rw [if_pos (by omega), show j / 64 = k by omega, show j % 64 = j - 64 * k by omega]
  · rw [if_neg (fun h => h1 ⟨h.1, h.2.1⟩)]
    by_cases h2 : j < 576
    · rw [if_pos h2, if_pos h2]
      unfold nineP
      by_cases h3 : j < 64 * k
      · rw [if_pos h3, if_pos (by omega)]
      · rw [if_neg h3, if_neg (by omega)]
    · rw [if_neg h2, if_neg h2]
end Go.Proofs.Ytdohohafdplkiaa

/- What a copy shows behind a crash (draft). -/
set_option linter.unusedSimpArgs false
set_option linter.unusedVariables false
set_option maxRecDepth 20000
namespace Go.Proofs.Ytdohohafdplkiaa
open Go.RowKit
theorem crash_old {w W : World} {p : Nat} {d : Dk} (h : DkO w W p d) {kv : Value} {keep : List Bool} (hs : SlV1 KBo 1 w kv keep) (hg : ∀ g, kv.ownBlock = some g → g < w.heap.size) : Calls Try.prog 18 #[PT p, kv] W (fun e w' => e = .returned (I 0) ∧ DkO w w' p (crashD d keep)) := by
  obtain ⟨L, rfl, hL, ho⟩ := h.out
  refine (crash_any hL kv keep (hs.ex h.ex) fun g hg' => ⟨fun e => by have := ho g e; have := hg g hg'; omega, Nat.lt_of_lt_of_le (hg g hg') (ex_size h.ex)⟩).mono fun e W' hh => ?_
  obtain ⟨L', rfl, k1, k2⟩ := hh
  exact ⟨rfl, DkO.turn h.ex ho rfl k1 k2⟩
/-- The copy, and the block that is filled. -/
structure Vw (w W : World) (p : Nat) (d : Dk) (f : Nat → UInt8) : Prop where
  ex : Ex w W
  out : ∃ L, L.p = p ∧ DkAt W L d ∧ ∀ b, L.own b → w.heap.size + 1 ≤ b
  bl : W.heap[w.heap.size]? = some (.cells (rowB 576 f) 48 (0, 0))
theorem Vw.read {w W : World} {p : Nat} {d : Dk} {f : Nat → UInt8} (h : Vw w W p d f) {i : Nat} (hi : i < 9) (hops : d.ops < 1000000000) : Calls Try.prog 21 #[PT p, I i] W fun e w' => e = .returned (.tuple #[.agg (rowB 64 (bkF (readD d i).2.1)), I (readD d i).2.2]) ∧ Vw w w' p (readD d i).1 f := by
  obtain ⟨L, rfl, hL, ho⟩ := h.out
  refine (read_any hL i (by omega) (by omega) hops).mono fun e W' hh => ?_
  obtain ⟨L', rfl, k1, k2⟩ := hh
  refine ⟨rfl, ex_of_below ((ex_below h.ex).trans (k2.below (ex_size h.ex) fun b hb => by have := ho b hb; omega)), ⟨L', k2.pp, k1, fun b hb => ?_⟩, ?_⟩
  · have hz := (Array.getElem?_eq_some_iff.1 h.bl).1
    exact (k2.own hb).elim (ho b) fun h => by omega
  · have hz := (Array.getElem?_eq_some_iff.1 h.bl).1
    rw [k2.same _ hz fun e => by have := ho _ e; omega]
    exact h.bl
theorem Vw.put {w W : World} {p : Nat} {d : Dk} {l : List Bk} {k : Nat} (h : Vw w W p d (nineP l k)) (hk : k < 9) : Vw w (W.setCells w.heap.size (64 * k) (rowB 64 (bkF (l.getD k zeroB))).toList) p d (nineP l (k + 1)) := by
  obtain ⟨L, rfl, hL, ho⟩ := h.out
  refine ⟨ex_setCellsK h.ex (Nat.le_refl _) _ _, ⟨L, rfl, ?_, ho⟩, ?_⟩
  · obtain ⟨qv, hM⟩ := hL.out
    exact ⟨qv, hM.keep fun b hb => setCells_heap _ _ _ _ _ (by have := ho b hb; omega)⟩
  · have := setCells_block w.heap.size 48 (0, 0) (rowB 64 (bkF (l.getD k zeroB))).toList (64 * k) W _ h.bl
    rwa [nineP_step l hk] at this
end Go.Proofs.Ytdohohafdplkiaa

/- What a copy shows behind a crash: view. -/
set_option linter.unusedSimpArgs false
set_option linter.unusedVariables false
set_option maxRecDepth 20000
namespace Go.Proofs.Ytdohohafdplkiaa
open Go.RowKit
theorem row_part {w : World} {b : Nat} {f : Nat → UInt8} {t : TypeId} {o : Nat} (h : w.heap[b]? = some (.cells (rowB 576 f) t (0, 0))) (ho : o + 64 ≤ 576) : cellsN w b o 64 = some (rowB 64 fun j => f (o + j)) ∧ frozenN w b o 64 = false := by
  refine ⟨cellsN_some.2 ⟨by simp, fun j hj => ?_⟩, frozenN_false.2 fun j hj => by simp [World.frozen?, h]⟩
  rw [cell_of_row w b (o + j) _ _ _ h, rowB_get, rowB_get, if_pos (by omega), if_pos hj]
set_option maxHeartbeats 1000000 in
theorem view_any {w : World} {L : Loc} {d : Dk} (h : DkAt w L d) (hn : d.has.length = 9) (hops : d.ops < 1000000) {kv : Value} {keep : List Bool} (hs : SlV1 KBo 1 w kv keep) (hg : ∀ g, kv.ownBlock = some g → g < w.heap.size) :
    Calls Try.prog 19 #[PT L.p, kv] w fun e w' => e = .returned (.tuple #[.agg (rowB 576 (nineF (viewD d keep))), .bool true]) ∧ Ex w w' := by
  obtain ⟨w2, hw2⟩ : ∃ w2, w.alloc (.cells (rowB 576 fun _ => 0) 48) = w2 := ⟨_, rfl⟩
  have k2 : Ex w w2 := by rw [← hw2]; exact ex_alloc (ex_refl _) _
  have hs2 : w2.heap.size = w.heap.size + 1 := by rw [← hw2]; simp [go_sem]
  have hb2 : w2.heap[w.heap.size]? = some (.cells (rowB 576 (nineP (viewD d keep) 0)) 48 (0, 0)) := by
    rw [← hw2, show rowB 576 (nineP (viewD d keep) 0) = rowB 576 fun _ => 0 from rowB_congr fun i _ => by unfold nineP; rw [if_neg (by omega)]]
    exact heap_alloc_new w _
  have HC1 : Hid (Calls Try.prog 29 #[PT L.p] w2 fun e w3 => ∃ pc, e = .returned (PT pc) ∧ DkO w2 w3 pc d) := Lib.hid ((copy_any (h.ex k2)).mono fun e w3 hh => by
    obtain ⟨Lc, rfl, a1, a2, a3⟩ := hh
    exact ⟨Lc.p, rfl, a2, Lc, rfl, a1, a3⟩)
  have HC2 : Hid (∀ W pc, DkO w2 W pc d → Calls Try.prog 18 #[PT pc, kv] W (fun e w' => e = .returned (I 0) ∧ DkO w2 w' pc (crashD d keep))) := Lib.hid fun W pc hW => crash_old hW (hs.ex k2) fun g hg' => Nat.lt_of_lt_of_le (hg g hg') (ex_size k2)
  have HC3 : Hid (∀ W pc, DkO w2 W pc (crashD d keep) → Calls Try.prog 23 #[PT pc] W (PostZ W [])) := Lib.hid fun W pc hW => pend_o hW
  have HV : Hid (∀ W pc, DkO w2 W pc (crashD d keep) → Vw w W pc (vD d keep d.ops) (nineP (viewD d keep) 0)) := Lib.hid fun W pc hW => by
    obtain ⟨L1, e1, e2, e3⟩ := hW.out
    exact ⟨ex_trans k2 hW.ex, ⟨L1, e1, e2, fun b hb => by have := e3 b hb; omega⟩, ex_block hW.ex hb2⟩
  have HRd : Hid (∀ W pc k, k < 9 → Vw w W pc (vD d keep (d.ops + k)) (nineP (viewD d keep) k) → Calls Try.prog 21 #[PT pc, I k] W fun e w' => e = .returned (.tuple #[.agg (rowB 64 (bkF ((viewD d keep).getD k zeroB))), I 0]) ∧ Vw w w' pc (vD d keep (d.ops + (k + 1))) (nineP (viewD d keep) k)) := Lib.hid fun W pc k hk hW => by
    have := hW.read hk (by show d.ops + k < _; omega)
    rwa [vD_read d keep (d.ops + k) (by omega)] at this
  have hkv : kv.oneCell' = true := by obtain ⟨ka, kc, rfl, _⟩ := hs.out; rfl
  have Hw2 := Lib.hid hw2
  clear hw2 hb2 k2 hs2 h hs hg
  go_enter Try.func19, Try.ntmps19
  go_wp2_with (first | (go_at_call 29; rw [Hw2.out]; (with_reducible refine HC1.out.mono ?_); rintro e w3 ⟨pc, rfl, h3⟩; replace h3 := Lib.hid h3) | (go_at_call 18; (with_reducible refine (HC2.out _ _ h3.out).mono ?_); rintro e w4 ⟨rfl, h4⟩; replace h4 := Lib.hid h4) | (go_at_call 23; (with_reducible refine (HC3.out _ _ h4.out).mono ?_); rintro e w5 ⟨v5, rfl, hO5, k5⟩; obtain ⟨a5, c5, rfl, _⟩ := own_form hO5; clear hO5; replace h4 := Lib.hid (h4.out.grow k5)))
  go_loopw [26] (fun i W => ∃ k : Nat, k ≤ 9 ∧ i = I k ∧ Hid (Vw w W pc (vD d keep (d.ops + k)) (nineP (viewD d keep) k))) (fun i _ => 9 - (intOf i).toNat)
  case atStart => exact ⟨0, by omega, rfl, Lib.hid (HV.out _ _ h4.out)⟩
  case round =>
    obtain ⟨k, hk, rfl, hW⟩ := hrel
    by_cases hlt : k < 9
    · have hlt2 : (k : Int) < 9 := by omega
      have HR := Lib.hid (HRd.out _ _ _ hlt hW.out)
      go_wp2_with (go_at_call 21; (with_reducible refine HR.out.mono ?_); rintro e w6 ⟨rfl, h6⟩; obtain ⟨n6, f6⟩ := row_part (o := k * 64) h6.bl (by omega); have z6 := (Array.getElem?_eq_some_iff.1 h6.bl).1; replace h6 := Lib.hid h6)
      refine ⟨⟨k + 1, by omega, by go_num, Lib.hid ?_⟩, by simp [intOf]; omega⟩
      have hp := h6.out.put hlt
      rwa [Nat.mul_comm 64 k, List.getD_eq_getElem?_getD] at hp
    · obtain rfl : k = 9 := by omega
      obtain ⟨n6, f6⟩ := block_cells (n := 576) hW.out.bl (by simp)
      have z6 := (Array.getElem?_eq_some_iff.1 hW.out.bl).1
      go_wp2
      have hb : (wr.setCells w.heap.size 0 (rowB 576 (nineP (viewD d keep) 9)).toList).heap[w.heap.size]? = some (.cells (rowB 576 (nineF (viewD d keep))) 48 (0, 0)) := by
        have := setCells_block w.heap.size 48 (0, 0) (rowB 576 (nineP (viewD d keep) 9)).toList 0 wr _ hW.out.bl
        rwa [show spliceA (rowB 576 (nineP (viewD d keep) 9)) 0 (rowB 576 (nineP (viewD d keep) 9)).toList = rowB 576 (nineF (viewD d keep)) by
          rw [spliceA_all _ _ (by simp)]
          show rowB 576 (nineP (viewD d keep) 9) = _
          exact rowB_congr fun i hi => by unfold nineP; rw [if_pos (by omega)]] at this
      refine ret_rowV Try.results19 Try.underlying48 rfl info_nine rfl (block_cells hb (by simp)).1 rfl rfl ⟨rfl, ex_setCellsK hW.out.ex (Nat.le_refl _) _ _⟩
end Go.Proofs.Ytdohohafdplkiaa
