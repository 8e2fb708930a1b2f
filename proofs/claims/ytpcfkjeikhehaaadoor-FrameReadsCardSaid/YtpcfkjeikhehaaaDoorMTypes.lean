import Derived.Test.YtpcfkjeikhehaaaDoorMWords
import Derived.Test.YtpcfkjeikhehaaaDoorChecked

/- The program's rows: how they are read and laid. -/
set_option linter.unusedSimpArgs false
set_option linter.unusedVariables false
namespace Go.Proofs.YtpcfkjeikhehaaaDoor
theorem info_a8u : (Tryd.prog.info? 99).map (·.size) = some 8 := by kernel_rfl
@[go_sem] theorem load_a8u (b o : Nat) (w : World) : loadRun Tryd.prog 99 (.pointer (some ⟨b, o, none⟩)) w = match cellsN w b o 8 with | some cs => .ok (.value (.agg cs)) w | none => loadRaw Tryd.prog 99 (.pointer (some ⟨b, o, none⟩)) w := loadRun_row Tryd.underlying99 rfl info_a8u b o w
@[go_sem] theorem store_a8u (b o : Nat) (vs : Array Value) (w : World) : storeRun Tryd.prog 99 (.pointer (some ⟨b, o, none⟩)) (.agg vs) w = if (vs.size == 8 && (cellsN w b o 8).isSome && !frozenN w b o 8 && oneCells vs) = true then .ok .skip (w.setCells b o vs.toList) else storeRaw Tryd.prog 99 (.pointer (some ⟨b, o, none⟩)) (.agg vs) w := storeRun_row info_a8u b o vs w
theorem info_a64b : (Tryd.prog.info? 101).map (·.size) = some 64 := by kernel_rfl
@[go_sem] theorem load_a64b (b o : Nat) (w : World) : loadRun Tryd.prog 101 (.pointer (some ⟨b, o, none⟩)) w = match cellsN w b o 64 with | some cs => .ok (.value (.agg cs)) w | none => loadRaw Tryd.prog 101 (.pointer (some ⟨b, o, none⟩)) w := loadRun_row Tryd.underlying101 rfl info_a64b b o w
@[go_sem] theorem store_a64b (b o : Nat) (vs : Array Value) (w : World) : storeRun Tryd.prog 101 (.pointer (some ⟨b, o, none⟩)) (.agg vs) w = if (vs.size == 64 && (cellsN w b o 64).isSome && !frozenN w b o 64 && oneCells vs) = true then .ok .skip (w.setCells b o vs.toList) else storeRaw Tryd.prog 101 (.pointer (some ⟨b, o, none⟩)) (.agg vs) w := storeRun_row info_a64b b o vs w
theorem info_a4u : (Tryd.prog.info? 134).map (·.size) = some 4 := by kernel_rfl
@[go_sem] theorem load_a4u (b o : Nat) (w : World) : loadRun Tryd.prog 134 (.pointer (some ⟨b, o, none⟩)) w = match cellsN w b o 4 with | some cs => .ok (.value (.agg cs)) w | none => loadRaw Tryd.prog 134 (.pointer (some ⟨b, o, none⟩)) w := loadRun_row Tryd.underlying134 rfl info_a4u b o w
@[go_sem] theorem store_a4u (b o : Nat) (vs : Array Value) (w : World) : storeRun Tryd.prog 134 (.pointer (some ⟨b, o, none⟩)) (.agg vs) w = if (vs.size == 4 && (cellsN w b o 4).isSome && !frozenN w b o 4 && oneCells vs) = true then .ok .skip (w.setCells b o vs.toList) else storeRaw Tryd.prog 134 (.pointer (some ⟨b, o, none⟩)) (.agg vs) w := storeRun_row info_a4u b o vs w
theorem info_a16u : (Tryd.prog.info? 115).map (·.size) = some 16 := by kernel_rfl
@[go_sem] theorem load_a16u (b o : Nat) (w : World) : loadRun Tryd.prog 115 (.pointer (some ⟨b, o, none⟩)) w = match cellsN w b o 16 with | some cs => .ok (.value (.agg cs)) w | none => loadRaw Tryd.prog 115 (.pointer (some ⟨b, o, none⟩)) w := loadRun_row Tryd.underlying115 rfl info_a16u b o w
@[go_sem] theorem store_a16u (b o : Nat) (vs : Array Value) (w : World) : storeRun Tryd.prog 115 (.pointer (some ⟨b, o, none⟩)) (.agg vs) w = if (vs.size == 16 && (cellsN w b o 16).isSome && !frozenN w b o 16 && oneCells vs) = true then .ok .skip (w.setCells b o vs.toList) else storeRaw Tryd.prog 115 (.pointer (some ⟨b, o, none⟩)) (.agg vs) w := storeRun_row info_a16u b o vs w
theorem info_a16i : (Tryd.prog.info? 130).map (·.size) = some 16 := by kernel_rfl
@[go_sem] theorem load_a16i (b o : Nat) (w : World) : loadRun Tryd.prog 130 (.pointer (some ⟨b, o, none⟩)) w = match cellsN w b o 16 with | some cs => .ok (.value (.agg cs)) w | none => loadRaw Tryd.prog 130 (.pointer (some ⟨b, o, none⟩)) w := loadRun_row Tryd.underlying130 rfl info_a16i b o w
@[go_sem] theorem store_a16i (b o : Nat) (vs : Array Value) (w : World) : storeRun Tryd.prog 130 (.pointer (some ⟨b, o, none⟩)) (.agg vs) w = if (vs.size == 16 && (cellsN w b o 16).isSome && !frozenN w b o 16 && oneCells vs) = true then .ok .skip (w.setCells b o vs.toList) else storeRaw Tryd.prog 130 (.pointer (some ⟨b, o, none⟩)) (.agg vs) w := storeRun_row info_a16i b o vs w
theorem info_a1016 : (Tryd.prog.info? 131).map (·.size) = some 160 := by kernel_rfl
@[go_sem] theorem load_a1016 (b o : Nat) (w : World) : loadRun Tryd.prog 131 (.pointer (some ⟨b, o, none⟩)) w = match cellsN w b o 160 with | some cs => .ok (.value (.agg cs)) w | none => loadRaw Tryd.prog 131 (.pointer (some ⟨b, o, none⟩)) w := loadRun_row Tryd.underlying131 rfl info_a1016 b o w
@[go_sem] theorem store_a1016 (b o : Nat) (vs : Array Value) (w : World) : storeRun Tryd.prog 131 (.pointer (some ⟨b, o, none⟩)) (.agg vs) w = if (vs.size == 160 && (cellsN w b o 160).isSome && !frozenN w b o 160 && oneCells vs) = true then .ok .skip (w.setCells b o vs.toList) else storeRaw Tryd.prog 131 (.pointer (some ⟨b, o, none⟩)) (.agg vs) w := storeRun_row info_a1016 b o vs w
theorem info_a4i : (Tryd.prog.info? 132).map (·.size) = some 4 := by kernel_rfl
@[go_sem] theorem load_a4i (b o : Nat) (w : World) : loadRun Tryd.prog 132 (.pointer (some ⟨b, o, none⟩)) w = match cellsN w b o 4 with | some cs => .ok (.value (.agg cs)) w | none => loadRaw Tryd.prog 132 (.pointer (some ⟨b, o, none⟩)) w := loadRun_row Tryd.underlying132 rfl info_a4i b o w
@[go_sem] theorem store_a4i (b o : Nat) (vs : Array Value) (w : World) : storeRun Tryd.prog 132 (.pointer (some ⟨b, o, none⟩)) (.agg vs) w = if (vs.size == 4 && (cellsN w b o 4).isSome && !frozenN w b o 4 && oneCells vs) = true then .ok .skip (w.setCells b o vs.toList) else storeRaw Tryd.prog 132 (.pointer (some ⟨b, o, none⟩)) (.agg vs) w := storeRun_row info_a4i b o vs w
theorem info_a84 : (Tryd.prog.info? 133).map (·.size) = some 32 := by kernel_rfl
@[go_sem] theorem load_a84 (b o : Nat) (w : World) : loadRun Tryd.prog 133 (.pointer (some ⟨b, o, none⟩)) w = match cellsN w b o 32 with | some cs => .ok (.value (.agg cs)) w | none => loadRaw Tryd.prog 133 (.pointer (some ⟨b, o, none⟩)) w := loadRun_row Tryd.underlying133 rfl info_a84 b o w
@[go_sem] theorem store_a84 (b o : Nat) (vs : Array Value) (w : World) : storeRun Tryd.prog 133 (.pointer (some ⟨b, o, none⟩)) (.agg vs) w = if (vs.size == 32 && (cellsN w b o 32).isSome && !frozenN w b o 32 && oneCells vs) = true then .ok .skip (w.setCells b o vs.toList) else storeRaw Tryd.prog 133 (.pointer (some ⟨b, o, none⟩)) (.agg vs) w := storeRun_row info_a84 b o vs w
theorem info_id : (Tryd.prog.info? 75).map (·.size) = some 32 := by kernel_rfl
@[go_sem] theorem load_id (b o : Nat) (w : World) : loadRun Tryd.prog 75 (.pointer (some ⟨b, o, none⟩)) w = match cellsN w b o 32 with | some cs => .ok (.value (.agg cs)) w | none => loadRaw Tryd.prog 75 (.pointer (some ⟨b, o, none⟩)) w := loadRun_row Tryd.underlying75 rfl info_id b o w
@[go_sem] theorem store_id (b o : Nat) (vs : Array Value) (w : World) : storeRun Tryd.prog 75 (.pointer (some ⟨b, o, none⟩)) (.agg vs) w = if (vs.size == 32 && (cellsN w b o 32).isSome && !frozenN w b o 32 && oneCells vs) = true then .ok .skip (w.setCells b o vs.toList) else storeRaw Tryd.prog 75 (.pointer (some ⟨b, o, none⟩)) (.agg vs) w := storeRun_row info_id b o vs w
@[go_sem] theorem at_a1016 (cs : Array Value) (i : Int) (w : World) : (Instr.index 131 (.agg cs) (.int .i64 i)).run Tryd.prog w = if 0 ≤ i ∧ i < (10 : Nat) then .ok (.agg (cs.extract (i.toNat * 16) (i.toNat * 16 + 16))) w else idxRaw Tryd.prog 131 (.agg cs) (.int .i64 i) w := index_row Tryd.underlying131 Tryd.underlying130 rfl (by kernel_rfl) cs i w
@[go_sem high] theorem atI_a1016 (f : Nat → Int) (i : Int) (w : World) : (Instr.index 131 (.agg (rowI 160 f)) (.int .i64 i)).run Tryd.prog w = if 0 ≤ i ∧ i < (10 : Nat) then .ok (.agg (rowI 16 (shiftF f (i.toNat * 16)))) w else idxRaw Tryd.prog 131 (.agg (rowI 160 f)) (.int .i64 i) w := index_rowI (n := 10) (s := 16) (N := 160) Tryd.underlying131 Tryd.underlying130 rfl (by kernel_rfl) (by decide) f i w
@[go_sem] theorem at_a84 (cs : Array Value) (i : Int) (w : World) : (Instr.index 133 (.agg cs) (.int .i64 i)).run Tryd.prog w = if 0 ≤ i ∧ i < (8 : Nat) then .ok (.agg (cs.extract (i.toNat * 4) (i.toNat * 4 + 4))) w else idxRaw Tryd.prog 133 (.agg cs) (.int .i64 i) w := index_row Tryd.underlying133 Tryd.underlying132 rfl (by kernel_rfl) cs i w
@[go_sem high] theorem atI_a84 (f : Nat → Int) (i : Int) (w : World) : (Instr.index 133 (.agg (rowI 32 f)) (.int .i64 i)).run Tryd.prog w = if 0 ≤ i ∧ i < (8 : Nat) then .ok (.agg (rowI 4 (shiftF f (i.toNat * 4)))) w else idxRaw Tryd.prog 133 (.agg (rowI 32 f)) (.int .i64 i) w := index_rowI (n := 8) (s := 4) (N := 32) Tryd.underlying133 Tryd.underlying132 rfl (by kernel_rfl) (by decide) f i w
@[go_sem] theorem at_a16i (cs : Array Value) (i : Int) (w : World) : (Instr.index 130 (.agg cs) (.int .i64 i)).run Tryd.prog w = if 0 ≤ i ∧ i < (16 : Nat) then (match cs[i.toNat]? with | some v => .ok v w | none => idxRaw Tryd.prog 130 (.agg cs) (.int .i64 i) w) else idxRaw Tryd.prog 130 (.agg cs) (.int .i64 i) w := index_one Tryd.underlying130 Tryd.underlying3 rfl (by kernel_rfl) cs i w
@[go_sem] theorem at_a4i (cs : Array Value) (i : Int) (w : World) : (Instr.index 132 (.agg cs) (.int .i64 i)).run Tryd.prog w = if 0 ≤ i ∧ i < (4 : Nat) then (match cs[i.toNat]? with | some v => .ok v w | none => idxRaw Tryd.prog 132 (.agg cs) (.int .i64 i) w) else idxRaw Tryd.prog 132 (.agg cs) (.int .i64 i) w := index_one Tryd.underlying132 Tryd.underlying3 rfl (by kernel_rfl) cs i w
@[go_sem] theorem at_a8u (cs : Array Value) (i : Int) (w : World) : (Instr.index 99 (.agg cs) (.int .i64 i)).run Tryd.prog w = if 0 ≤ i ∧ i < (8 : Nat) then (match cs[i.toNat]? with | some v => .ok v w | none => idxRaw Tryd.prog 99 (.agg cs) (.int .i64 i) w) else idxRaw Tryd.prog 99 (.agg cs) (.int .i64 i) w := index_one Tryd.underlying99 Tryd.underlying98 rfl (by kernel_rfl) cs i w
@[go_sem] theorem at_id (cs : Array Value) (i : Int) (w : World) : (Instr.index 75 (.agg cs) (.int .i64 i)).run Tryd.prog w = if 0 ≤ i ∧ i < (32 : Nat) then (match cs[i.toNat]? with | some v => .ok v w | none => idxRaw Tryd.prog 75 (.agg cs) (.int .i64 i) w) else idxRaw Tryd.prog 75 (.agg cs) (.int .i64 i) w := index_one Tryd.underlying75 Tryd.underlying5 rfl (by kernel_rfl) cs i w
theorem copyinfo_u32 : (Tryd.prog.info? 98).map (·.size) = some 1 := by kernel_rfl
@[go_sem] theorem copy_u32 (ty sT b o b' o' n c n' c' : Nat) (w : World) : copyRun Tryd.prog #[129, sT] ty (.slice (some ⟨b, o, none⟩) n c) (.slice (some ⟨b', o', none⟩) n' c') w =
      match cellsN w b' o' (min n' n) with
      | some cs => if ((cellsN w b o (min n' n)).isSome && !frozenN w b o (min n' n) && oneCells cs) = true then .ok (.value (.int .i64 (min n' n : Nat))) (w.setCells b o cs.toList)
        else copyRaw Tryd.prog #[129, sT] ty (.slice (some ⟨b, o, none⟩) n c) (.slice (some ⟨b', o', none⟩) n' c') w
      | none => copyRaw Tryd.prog #[129, sT] ty (.slice (some ⟨b, o, none⟩) n c) (.slice (some ⟨b', o', none⟩) n' c') w := copyRun_row Tryd.underlying129 copyinfo_u32 ty b o b' o' n c n' c' w
theorem copyinfo_u8 : (Tryd.prog.info? 5).map (·.size) = some 1 := by kernel_rfl
@[go_sem] theorem copy_u8 (ty sT b o b' o' n c n' c' : Nat) (w : World) : copyRun Tryd.prog #[27, sT] ty (.slice (some ⟨b, o, none⟩) n c) (.slice (some ⟨b', o', none⟩) n' c') w =
      match cellsN w b' o' (min n' n) with
      | some cs => if ((cellsN w b o (min n' n)).isSome && !frozenN w b o (min n' n) && oneCells cs) = true then .ok (.value (.int .i64 (min n' n : Nat))) (w.setCells b o cs.toList)
        else copyRaw Tryd.prog #[27, sT] ty (.slice (some ⟨b, o, none⟩) n c) (.slice (some ⟨b', o', none⟩) n' c') w
      | none => copyRaw Tryd.prog #[27, sT] ty (.slice (some ⟨b, o, none⟩) n c) (.slice (some ⟨b', o', none⟩) n' c') w := copyRun_row Tryd.underlying27 copyinfo_u8 ty b o b' o' n c n' c' w
end Go.Proofs.YtpcfkjeikhehaaaDoor

/- Blake: small functions. -/
set_option linter.unusedSimpArgs false
set_option linter.unusedVariables false
set_option maxRecDepth 20000
namespace Go.Proofs.YtpcfkjeikhehaaaDoor
open Go.RowKit

/-- Four bytes as a number, the lowest first; the first k of them. -/
def leK (f : Nat → UInt8) : Nat → UInt32
  | 0 => 0
  | k + 1 => leK f k ||| (f k).toUInt32 <<< UInt32.ofNat (8 * k)
theorem shl_step (x : UInt32) (k : Nat) (hk : k < 4) : IntKind.u32.wrap (un x * 2 ^ (8 * k)) = un (x <<< UInt32.ofNat (8 * k)) := un_shl x (8 * k) (by omega)

set_option maxHeartbeats 400000 in
theorem little_any (g off len cap : Nat) (f : Nat → UInt8) (w : World) (hl : 4 ≤ len) (hm : len ≤ maxLen) (hc : ∀ j, j < 4 → w.cell? ⟨g, off + j, none⟩ = some (B (f j))) :
    Calls Tryd.prog 92 #[.slice (some ⟨g, off, none⟩) len cap] w fun e w' => e = .returned (U (leK f 4)) ∧ w = w' := by
  unfold maxLen at hm
  go_enter Tryd.func92, Tryd.ntmps92
  go_wp2
  go_loop [2, 4] (fun x i => ∃ k : Nat, k ≤ 4 ∧ i = .int .i64 k ∧ x = U (leK f k)) (fun _ i => 4 - (intOf i).toNat)
  case atStart => exact ⟨0, by omega, rfl, rfl⟩
  case round =>
    obtain ⟨k, hk, rfl, rfl⟩ := hrel
    by_cases hlt : k < 4
    · have h1 := hc k hlt
      go_wp2
      have h3 := shl_step (f k).toUInt32 k hlt
      rw [IntKind.wrap_u32] at h3
      refine ⟨⟨k + 1, by omega, by go_num, ?_⟩, by simp [intOf]; omega⟩
      rw [h3, un_or]; rfl
    · obtain rfl : k = 4 := by omega
      go_wp2
      go_ret
      exact ⟨rfl, rfl⟩

/-- A digit's number. -/
def digitI (n : Int) : Int := if 48 ≤ n ∧ n ≤ 57 then n - 48 else if 97 ≤ n ∧ n ≤ 102 then n - 87 else -1
set_option maxHeartbeats 400000 in
theorem digit_any (n : Int) (w : World) (h0 : 0 ≤ n) (h1 : n ≤ 255) :
    Calls Tryd.prog 86 #[.int .u8 n] w fun e w' => e = .returned (I (digitI n)) ∧ w = w' := by
  unfold digitI
  by_cases a : 48 ≤ n
  · by_cases b : n ≤ 57
    · rw [if_pos ⟨a, b⟩]
      go_enter Tryd.func86, Tryd.ntmps86
      go_wp2
      go_ret
      exact ⟨rfl, rfl⟩
    · rw [if_neg (by omega)]
      by_cases c : 97 ≤ n
      · by_cases d : n ≤ 102
        · rw [if_pos ⟨c, d⟩]
          go_enter Tryd.func86, Tryd.ntmps86
          go_wp2
          go_ret
          exact ⟨congrArg (fun x => Ending.returned (I x)) (by omega), rfl⟩
        · rw [if_neg (by omega)]
          go_enter Tryd.func86, Tryd.ntmps86
          go_wp2
          go_ret
          exact ⟨rfl, rfl⟩
      · rw [if_neg (by omega)]
        go_enter Tryd.func86, Tryd.ntmps86
        go_wp2
        go_ret
        exact ⟨rfl, rfl⟩
  · rw [if_neg (by omega), if_neg (by omega)]
    go_enter Tryd.func86, Tryd.ntmps86
    go_wp2
    go_ret
    exact ⟨rfl, rfl⟩

/-- The first numbers. -/
def startF : Nat → UInt32
  | 0 => 0x6A09E667 | 1 => 0xBB67AE85 | 2 => 0x3C6EF372 | 3 => 0xA54FF53A | 4 => 0x510E527F | 5 => 0x9B05688C | 6 => 0x1F83D9AB | 7 => 0x5BE0CD19 | _ => 0
theorem start_lit : (#[.int .u32 1779033703, .int .u32 3144134277, .int .u32 1013904242, .int .u32 2773480762, .int .u32 1359893119, .int .u32 2600822924, .int .u32 528734635, .int .u32 1541459225] : Array Value) = rowU 8 startF := by rfl

set_option maxHeartbeats 400000 in
theorem refstart_any (w : World) :
    Calls Tryd.prog 67 #[] w (Post w (.agg (rowU 8 startF))) := by
  go_enter Tryd.func67, Tryd.ntmps67
  go_wp2
  exact ret_row Tryd.results67 Tryd.underlying99 rfl info_a8u rfl (by simp [go_sem]; exact start_lit) rfl (post_mk rfl (ex_alloc (ex_refl _) _))

end Go.Proofs.YtpcfkjeikhehaaaDoor
