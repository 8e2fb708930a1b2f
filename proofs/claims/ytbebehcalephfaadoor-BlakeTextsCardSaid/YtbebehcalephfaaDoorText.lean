/- Text of both texts. -/
import Derived.Test.YtbebehcalephfaaDoorBuild
import Derived.Test.YtbebehcalephfaaDoorStrs
import Derived.Test.YtbebehcalephfaaDoorSumS
set_option linter.unusedSimpArgs false
set_option linter.unusedVariables false
set_option maxRecDepth 20000
namespace Go.Proofs.YtbebehcalephfaaDoor
open Go.RowKit
/-- The digits of the first k bytes. -/
def textK (f : Nat → UInt8) : Nat → List UInt8
  | 0 => []
  | k + 1 => textK f k ++ [dig ((f k).toNat / 16), dig ((f k).toNat % 16)]
theorem textK_len (f : Nat → UInt8) (k : Nat) : (textK f k).length = 2 * k := by
  induction k with
  | zero => rfl
  | succ k ih => simp [textK, ih]; omega
@[go_sem high] theorem index_digits (i : Int) (w : World) :
    (Instr.index 9 (.string ⟨#[48, 49, 50, 51, 52, 53, 54, 55, 56, 57, 97, 98, 99, 100, 101, 102]⟩) (.int .u8 i)).run Tryd.prog w = if 0 ≤ i ∧ i < 16 then .ok (.int .u8 (bn (dig i.toNat))) w else idxRaw Tryd.prog 9 (.string ⟨#[48, 49, 50, 51, 52, 53, 54, 55, 56, 57, 97, 98, 99, 100, 101, 102]⟩) (.int .u8 i) w := by
  split
  · rename_i h
    have h2 : 0 ≤ i ∧ i < ((⟨#[48, 49, 50, 51, 52, 53, 54, 55, 56, 57, 97, 98, 99, 100, 101, 102]⟩ : ByteArray).size : Int) := h
    rw [run_index_string w 9 _ .u8 i Tryd.underlying9, dif_pos h2]
    congr 2
    obtain ⟨n, rfl⟩ := Int.eq_ofNat_of_zero_le h.1
    have hn : n < 16 := by omega
    exact (by decide : ∀ n : Fin 16, (((⟨#[48, 49, 50, 51, 52, 53, 54, 55, 56, 57, 97, 98, 99, 100, 101, 102]⟩ : ByteArray)[n.val]'(by have := n.isLt; exact this)).toNat : Int) = bn (dig n)) ⟨n, hn⟩
  · rfl
theorem bn_and15 (x : UInt8) : bits BinOp.and IntKind.u8 (bn x) 15 = ((x.toNat % 16 : Nat) : Int) := by
  exact (by decide +kernel : ∀ n : Fin 256, bits BinOp.and IntKind.u8 (n.val : Int) 15 = ((n.val % 16 : Nat) : Int)) ⟨x.toNat, x.toNat_lt⟩
theorem bn_div16 (x : UInt8) : bn x / 16 = ((x.toNat / 16 : Nat) : Int) := by unfold bn; omega
set_option maxHeartbeats 2000000 in
theorem text_any (f : Nat → UInt8) (w : World) :
    Calls Tryd.prog 25 #[.agg (rowB 32 f)] w (Post w (.string ⟨(textK f 32).toArray⟩)) := by
  go_enter Tryd.func25, Tryd.ntmps25
  go_wp2
  go_loopw [7] (fun i wr => ∃ k : Nat, k ≤ 32 ∧ i = I k ∧ Lib.IsBuilder 77 5 w.heap.size (w.heap.size + 1) (Lib.byteCells (textK f k)) wr ∧ Below w.heap.size w wr) (fun i _ => 32 - (intOf i).toNat)
  case atStart => 
    refine ⟨0, by omega, rfl, Or.inl ⟨by omega, .slice none 0 0, ?_, ?_, by simp [Value.ownBlock]⟩, ex_below (ex_alloc (ex_alloc (ex_refl _) _) _)⟩
    · rw [show w.heap.size + 1 = (w.alloc (.cells (rowB 32 f) 46)).heap.size by simp [go_sem]]; exact heap_alloc_new _ _
    · exact ⟨by simp [go_sem], Or.inl ⟨rfl, rfl⟩⟩
  case round =>
    obtain ⟨k, hk, rfl, hb, hbe⟩ := hrel
    have hl := textK_len f k
    by_cases hlt : k < 32
    · have hx := bn_lt (f k)
      have e1 := bn_and15 (f k)
      have e2 : (((f k).toNat % 16 : Nat) : Int) < 16 := by omega
      have e3 : bn (f k) / 16 < 16 := by omega
      have e4 : 0 ≤ bn (f k) / 16 := by omega
      have e5 : bn (f k) / 16 = ((f k).toNat / 16 : Nat) := bn_div16 _
      have HE5 := Lib.hid e5
      have HB := Lib.hid hl
      clear e5 hl
      go_wp2_with (go_at_call 38; first | ((with_reducible refine (writeByte_any w.heap.size (w.heap.size + 1) _ _ wr hb (by have := HB.out; simp [Lib.byteCells]; omega) hbe.size).mono ?_); rintro e w1 ⟨rfl, hb1, hbe1⟩) | ((with_reducible refine (writeByte_any w.heap.size (w.heap.size + 1) _ _ w1 hb1 (by have := HB.out; simp [Lib.byteCells]; omega) (Nat.le_trans hbe.size hbe1.size)).mono ?_); rintro e w2 ⟨rfl, hb2, hbe2⟩))
      refine ⟨⟨k + 1, by omega, by go_num, ?_, ?_⟩, by simp [intOf]; omega⟩
      · have e : Lib.byteCells (textK f (k + 1)) = Lib.byteCells (textK f k) ++ [.int .u8 (bn (dig (bn (f k) / 16).toNat))] ++ [.int .u8 (bn (dig ((f k).toNat % 16)))] := by
          rw [HE5.out, Int.toNat_natCast]; simp [textK, Lib.byteCells, bn]
        rw [e]; exact hb2
      · exact (hbe.trans hbe1).trans hbe2
    · obtain rfl : k = 32 := by omega
      clear hlt hk
      go_wp2_with (go_at_call 39; refine (bstring_any w.heap.size (w.heap.size + 1) (textK f 32) wr hb (by intro h; rw [h] at hl; simp at hl)).mono ?_; rintro e w1 ⟨rfl, hb1⟩)
      go_ret
      exact post_mk rfl (ex_of_below (hbe.trans hb1))
end Go.Proofs.YtbebehcalephfaaDoor
