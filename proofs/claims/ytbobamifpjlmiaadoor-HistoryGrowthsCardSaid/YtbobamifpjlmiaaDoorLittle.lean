/- Blake: small functions. -/
import Derived.Test.YtbobamifpjlmiaaDoorTypes
set_option linter.unusedSimpArgs false
set_option linter.unusedVariables false
set_option maxRecDepth 20000
namespace Go.Proofs.YtbobamifpjlmiaaDoor
open Go.RowKit

/-- Four bytes as a number, the lowest first; the first k of them. -/
def leK (f : Nat → UInt8) : Nat → UInt32
  | 0 => 0
  | k + 1 => leK f k ||| (f k).toUInt32 <<< UInt32.ofNat (8 * k)
theorem shl_step (x : UInt32) (k : Nat) (hk : k < 4) : IntKind.u32.wrap (un x * 2 ^ (8 * k)) = un (x <<< UInt32.ofNat (8 * k)) := un_shl x (8 * k) (by omega)

set_option maxHeartbeats 400000 in
theorem little_any (g off len cap : Nat) (f : Nat → UInt8) (w : World) (hl : 4 ≤ len) (hm : len ≤ maxLen) (hc : ∀ j, j < 4 → w.cell? ⟨g, off + j, none⟩ = some (B (f j))) :
    Calls Tryd.prog 110 #[.slice (some ⟨g, off, none⟩) len cap] w fun e w' => e = .returned (U (leK f 4)) ∧ w = w' := by
  unfold maxLen at hm
  go_enter Tryd.func110, Tryd.ntmps110
  go_wp2
  go_loop [2, 4] (fun x i => ∃ k : Nat, k ≤ 4 ∧ i = .int .i64 k ∧ x = U (leK f k)) (fun _ i => 4 - (intOf i).toNat)
  case atStart => exact ⟨0, by omega, rfl, rfl⟩
  case round =>
    obtain ⟨k, hk, rfl, rfl⟩ := hrel
    by_cases hlt : k < 4
    · have h1 := hc k hlt
      go_wp2
      have h3 := shl_step (f k).toUInt32 k hlt
      rw [IntKind.wrap_u32] at h3
      refine ⟨⟨k + 1, by omega, by go_num, ?_⟩, by simp [intOf]; omega⟩
      rw [h3, un_or]; rfl
    · obtain rfl : k = 4 := by omega
      go_wp2
      go_ret
      exact ⟨rfl, rfl⟩

/-- A digit's number. -/
def digitI (n : Int) : Int := if 48 ≤ n ∧ n ≤ 57 then n - 48 else if 97 ≤ n ∧ n ≤ 102 then n - 87 else -1
set_option maxHeartbeats 400000 in
theorem digit_any (n : Int) (w : World) (h0 : 0 ≤ n) (h1 : n ≤ 255) :
    Calls Tryd.prog 105 #[.int .u8 n] w fun e w' => e = .returned (I (digitI n)) ∧ w = w' := by
  unfold digitI
  by_cases a : 48 ≤ n
  · by_cases b : n ≤ 57
    · rw [if_pos ⟨a, b⟩]
      go_enter Tryd.func105, Tryd.ntmps105
      go_wp2
      go_ret
      exact ⟨rfl, rfl⟩
    · rw [if_neg (by omega)]
      by_cases c : 97 ≤ n
      · by_cases d : n ≤ 102
        · rw [if_pos ⟨c, d⟩]
          go_enter Tryd.func105, Tryd.ntmps105
          go_wp2
          go_ret
          exact ⟨congrArg (fun x => Ending.returned (I x)) (by omega), rfl⟩
        · rw [if_neg (by omega)]
          go_enter Tryd.func105, Tryd.ntmps105
          go_wp2
          go_ret
          exact ⟨rfl, rfl⟩
      · rw [if_neg (by omega)]
        go_enter Tryd.func105, Tryd.ntmps105
        go_wp2
        go_ret
        exact ⟨rfl, rfl⟩
  · rw [if_neg (by omega), if_neg (by omega)]
    go_enter Tryd.func105, Tryd.ntmps105
    go_wp2
    go_ret
    exact ⟨rfl, rfl⟩

/-- The first numbers. -/
def startF : Nat → UInt32
  | 0 => 0x6A09E667 | 1 => 0xBB67AE85 | 2 => 0x3C6EF372 | 3 => 0xA54FF53A | 4 => 0x510E527F | 5 => 0x9B05688C | 6 => 0x1F83D9AB | 7 => 0x5BE0CD19 | _ => 0
theorem start_lit : (#[.int .u32 1779033703, .int .u32 3144134277, .int .u32 1013904242, .int .u32 2773480762, .int .u32 1359893119, .int .u32 2600822924, .int .u32 528734635, .int .u32 1541459225] : Array Value) = rowU 8 startF := by rfl

set_option maxHeartbeats 400000 in
theorem refstart_any (w : World) :
    Calls Tryd.prog 84 #[] w (Post w (.agg (rowU 8 startF))) := by
  go_enter Tryd.func84, Tryd.ntmps84
  go_wp2
  exact ret_row Tryd.results84 Tryd.underlying110 rfl info_a8u rfl (by simp [go_sem]; exact start_lit) rfl (post_mk rfl (ex_alloc (ex_refl _) _))

end Go.Proofs.YtbobamifpjlmiaaDoor
