/- Parse of both texts; Less of the document. -/
import Derived.Test.YtbebehcalephfaaDoorLess
import Derived.Test.YtbebehcalephfaaDoorText
import Derived.Shelf.Small.Strs
set_option linter.unusedSimpArgs false
set_option linter.unusedVariables false
set_option maxRecDepth 20000
namespace Go.Proofs.YtbebehcalephfaaDoor
open Go.RowKit
set_option maxHeartbeats 1000000 in
theorem refless_any (f g : Nat → UInt8) (w : World) :
    Calls Tryd.prog 28 #[.agg (rowB 32 f), .agg (rowB 32 g)] w (Post w (.bool (ltN f g 32))) := by
  go_enter Tryd.func28, Tryd.ntmps28
  go_wp2
  go_loopw [6] (fun i wr => ∃ k : Nat, k ≤ 32 ∧ i = I k ∧ Hid (∀ j, j < k → f j = g j) ∧ Ex ((w.alloc (.cells (rowB 32 f) 46)).alloc (.cells (rowB 32 g) 46)) wr) (fun i _ => 32 - (intOf i).toNat)
  case atStart => exact ⟨0, by omega, rfl, Lib.hid fun j hj => by omega, ex_refl _⟩
  case round =>
    obtain ⟨k, hk, rfl, HQ, X, rfl⟩ := hrel
    by_cases hlt : k < 32
    · by_cases hd : f k = g k
      · have hd2 : (bn (f k) != bn (g k)) = false := by rw [hd]; simp
        have HD := Lib.hid hd
        clear hd
        go_wp2
        refine wp_region_mix [(0, true), (1, true), (2, true), (3, true), (4, true), (5, true), (6, true)] 7 (by kernel_rfl) (by kernel_rfl) (fun _ _ d _ _ h => by cases d <;> exact h) ?_
        simp only [List.map_cons, List.map_nil, nth, List.drop_succ_cons, List.drop_zero]
        repeat (first | (refine wpMix_look ?_; go_big_quiet_step (fail); refine wpQuiet_nil ?_) | (refine wpMix_eff rfl (fun X1 => ?_); go_wp2_with (fail); refine mixQ_mk (by first | exact ex_refl _ | exact ⟨_, rfl⟩ | exact ex_app _ _ _ | (simp only [wx_wx, wx_drew]; first | exact ex_refl _ | exact ex_app _ _ _ | exact ⟨_, rfl⟩) | (repeat (first | exact ex_refl _ | refine ex_drew ?_ | refine ex_alloc ?_ _ | refine ex_wx ?_ _))) ?_))
        refine wpMix_nil (fun X2 => ?_)
        go_wp2
        refine ⟨⟨k + 1, by omega, by go_num, Lib.hid fun j hj => ?_, (by repeat (first | exact ex_refl _ | refine ex_appR ?_ _ | refine ex_wx ?_ _ | refine ex_drew ?_ | refine ex_alloc ?_ _))⟩, by simp [intOf]; omega⟩
        by_cases h : j = k
        · rw [h]; exact HD.out
        · exact HQ.out j (by omega)
      · have hd2 : (bn (f k) != bn (g k)) = true := by
          rw [bne_iff_ne]; exact fun h => hd (bn_inj h)
        have hb := ltN_at hlt HQ.out hd
        have hb2 : decide (f k < g k) = decide (bn (f k) < bn (g k)) := by
          unfold bn; simp [UInt8.lt_iff_toNat_lt]
        rw [hb2] at hb
        have HB := Lib.hid hb
        clear hd hb hb2
        go_wp2
        refine wp_region_mix [(0, true), (1, true), (2, true), (3, true), (4, true), (5, true), (6, true)] 7 (by kernel_rfl) (by kernel_rfl) (fun _ _ d _ _ h => by cases d <;> exact h) ?_
        simp only [List.map_cons, List.map_nil, nth, List.drop_succ_cons, List.drop_zero]
        repeat (first | (refine wpMix_look ?_; go_big_quiet_step (fail); refine wpQuiet_nil ?_) | (refine wpMix_eff rfl (fun X1 => ?_); go_wp2_with (fail); refine mixQ_mk (by first | exact ex_refl _ | exact ⟨_, rfl⟩ | exact ex_app _ _ _ | (simp only [wx_wx, wx_drew]; first | exact ex_refl _ | exact ex_app _ _ _ | exact ⟨_, rfl⟩) | (repeat (first | exact ex_refl _ | refine ex_drew ?_ | refine ex_alloc ?_ _ | refine ex_wx ?_ _))) ?_))
        refine wpMix_nil (fun X2 => ?_)
        go_wp2
        refine wp_region_mix [(0, true), (1, true), (2, true), (3, true), (4, true), (5, true), (6, true), (7, true)] 8 (by kernel_rfl) (by kernel_rfl) (fun _ _ d _ _ h => by cases d <;> exact h) ?_
        simp only [List.map_cons, List.map_nil, nth, List.drop_succ_cons, List.drop_zero]
        repeat (first | (refine wpMix_look ?_; go_big_quiet_step (fail); refine wpQuiet_nil ?_) | (refine wpMix_eff rfl (fun X1 => ?_); go_wp2_with (fail); refine mixQ_mk (by first | exact ex_refl _ | exact ⟨_, rfl⟩ | exact ex_app _ _ _ | (simp only [wx_wx, wx_drew]; first | exact ex_refl _ | exact ex_app _ _ _ | exact ⟨_, rfl⟩) | (repeat (first | exact ex_refl _ | refine ex_drew ?_ | refine ex_alloc ?_ _ | refine ex_wx ?_ _))) ?_))
        refine wpMix_nil (fun X2 => ?_)
        go_wp2
        go_ret
        exact post_mk (by rw [HB.out]; rfl) (by repeat (first | exact ex_refl _ | refine ex_appR ?_ _ | refine ex_wx ?_ _ | refine ex_drew ?_ | refine ex_alloc ?_ _))
    · obtain rfl : k = 32 := by omega
      have hb := ltN_eq HQ.out
      have HB := Lib.hid hb
      clear hlt hk hb
      go_wp2
      go_ret
      exact post_mk (by rw [HB.out]; rfl) (by repeat (first | exact ex_refl _ | refine ex_appR ?_ _ | refine ex_wx ?_ _ | refine ex_drew ?_ | refine ex_alloc ?_ _))

/-- A byte of a text; its digit's number. -/
def sb (s : ByteArray) (k : Nat) : UInt8 := s.data.getD k 0
theorem sb_get (s : ByteArray) (k : Nat) (h : k < s.size) : s[k] = sb s k := by
  unfold sb
  have h2 : k < s.data.size := h
  rw [Array.getD_eq_getD_getElem?, Array.getElem?_eq_getElem h2]; rfl
@[go_sem high] theorem index_sb (s : ByteArray) (i : Int) (w : World) :
    (Instr.index 9 (.string s) (.int .i64 i)).run Tryd.prog w = if 0 ≤ i ∧ i < s.size then .ok (.int .u8 (bn (sb s i.toNat))) w else idxRaw Tryd.prog 9 (.string s) (.int .i64 i) w := by
  split
  · rename_i h
    rw [run_index_string w 9 s .i64 i Tryd.underlying9, dif_pos h]
    congr 2
    unfold bn
    rw [sb_get]
  · rfl
def dI (s : ByteArray) (k : Nat) : Int := digitI (bn (sb s k))
theorem digitI_lt (x : UInt8) : -1 ≤ digitI (bn x) ∧ digitI (bn x) < 16 := by
  have := bn_lt x; unfold digitI; split
  · omega
  · split <;> omega
theorem dI_lt (s : ByteArray) (k : Nat) : -1 ≤ dI s k ∧ dI s k < 16 := digitI_lt _
theorem indexByte_digit (x : UInt8) : Lib.indexByte [48, 49, 50, 51, 52, 53, 54, 55, 56, 57, 97, 98, 99, 100, 101, 102] x = digitI (bn x) := by
  exact (by decide +kernel : ∀ n : Fin 256, Lib.indexByte [48, 49, 50, 51, 52, 53, 54, 55, 56, 57, 97, 98, 99, 100, 101, 102] (UInt8.ofFin n) = digitI (n.val : Int)) x.toFin
set_option maxHeartbeats 1000000 in
theorem sindexByte_any (s : ByteArray) (c : Int) (w : World) :
    Calls Tryd.prog 46 #[.string s, .int .u8 c] w fun e w' => e = .returned (.int .i64 (Lib.indexByte s.data.toList c.toNat.toUInt8)) ∧ w = w' := by
  go_enter Tryd.func46, Tryd.ntmps46
  go_wp2
  rw [run_callFunc_extern Tryd.func48 (by kernel_rfl) (by kernel_rfl) (by kernel_rfl) (e := Extern.BytealgIndexByte.indexByte) (by kernel_rfl), Lib.run_indexByteString]
  simp only [Result.andThen]
  rw [Oper.upon_value]
  go_wp2
  go_ret
  exact ⟨rfl, rfl⟩
set_option maxHeartbeats 1000000 in
theorem indexByte_any (s : ByteArray) (c : Int) (w : World) :
    Calls Tryd.prog 42 #[.string s, .int .u8 c] w fun e w' => e = .returned (.int .i64 (Lib.indexByte s.data.toList c.toNat.toUInt8)) ∧ w = w' := by
  go_enter Tryd.func42, Tryd.ntmps42
  go_wp2_with (go_at_call 46; refine (sindexByte_any s c _).mono ?_; rintro e w' ⟨rfl, rfl⟩)
  go_ret
  exact ⟨rfl, rfl⟩
theorem digit_index (x : UInt8) (w : World) :
    Calls Tryd.prog 42 #[.string ⟨#[48, 49, 50, 51, 52, 53, 54, 55, 56, 57, 97, 98, 99, 100, 101, 102]⟩, .int .u8 (bn x)] w fun e w' => e = .returned (I (digitI (bn x))) ∧ w = w' := by
  have h := indexByte_any ⟨#[48, 49, 50, 51, 52, 53, 54, 55, 56, 57, 97, 98, 99, 100, 101, 102]⟩ (bn x) w
  have e : (bn x).toNat.toUInt8 = x := by unfold bn; simp
  rw [e] at h
  rw [← indexByte_digit]
  exact h
/-- Is it a text of a digest? Which one? -/
def okS (s : ByteArray) : Prop := s.size = 64 ∧ ∀ i, i < 64 → 0 ≤ dI s i
def parF (s : ByteArray) (j : Nat) : UInt8 := UInt8.ofNat (16 * (dI s (2 * j)).toNat + (dI s (2 * j + 1)).toNat)
/-- What Parse hands back. -/
noncomputable def parseV (s : ByteArray) : Value := open Classical in if okS s then .tuple #[.agg (rowB 32 (parF s)), I 0] else .tuple #[.agg (rowB 32 fun _ => 0), I 130]
noncomputable def refparseV (s : ByteArray) : Value := open Classical in if okS s then .tuple #[.agg (rowB 32 (parF s)), .bool true] else .tuple #[.agg (rowB 32 fun _ => 0), .bool false]
/-- A result in memory, and one beside it. -/
theorem ret_row2 {P : Program} {fn : Func} {p q : Tmp} {ty : TypeId} {d : TypeDesc} {n b : Nat} {cs : Array Value} {v : Value} {R : Ending → World → Prop} {a : Act} {w : World} (h : fn.results = #[.cell p ty, .tmp q])
    (hu : P.underlying ty = some d) (hd : d.isRow = true) (hi : (P.info? ty).map (·.size) = some n) (hp : a.tmps.getD p undef = .pointer (some ⟨b, 0, none⟩)) (hc : cellsN w b 0 n = some cs) (hq : a.tmps.getD q undef = v) (hdf : a.defers = [])
    (hR : R (.returned (.tuple #[.agg cs, v])) w) : bodyPost P fn R .ret a w := by
  have h1 := (cellsN_some.1 hc).1
  have hrun := run_loadVar_mid (P := P) w b 0 ty cs.toList d (cellsN_range hc) hu hd (by rw [hi]; simp [h1])
  have hp' : a.tmps[p]?.getD undef = .pointer (some ⟨b, 0, none⟩) := by simpa using hp
  have hq' : a.tmps[q]?.getD undef = v := by simpa using hq
  exact bodyPost_ret (by simp [results, h, hp', hq', asAddr, hrun]) hdf hR
/-- Behind k digits. -/
def gK (s : ByteArray) (k j : Nat) : UInt8 := if 2 * j + 1 < k then parF s j else if 2 * j < k then UInt8.ofNat (dI s (2 * j)).toNat else 0
theorem or16 (x : UInt8) (d : Int) (h0 : 0 ≤ d) (h1 : d < 16) : bits BinOp.or IntKind.u8 (bn x * 16 % 256) d = bn (UInt8.ofNat (x.toNat * 16 + d.toNat)) := by
  obtain ⟨n, rfl⟩ := Int.eq_ofNat_of_zero_le h0
  have hn : n < 16 := by omega
  exact (by decide +kernel : ∀ (m : Fin 256) (n : Fin 16), bits BinOp.or IntKind.u8 ((m.val : Int) * 16 % 256) (n.val : Int) = bn (UInt8.ofNat (m.val * 16 + (n.val : Int).toNat))) ⟨x.toNat, x.toNat_lt⟩ ⟨n, hn⟩
theorem gK_step (s : ByteArray) (k : Nat) : UInt8.ofNat ((gK s k (k / 2)).toNat * 16 + (dI s k).toNat) = gK s (k + 1) (k / 2) := by
  have h := dI_lt s k
  unfold gK
  by_cases he : k % 2 = 0
  · rw [if_neg (by omega), if_neg (by omega), if_neg (by omega), if_pos (by omega), show 2 * (k / 2) = k by omega]
    simp
  · rw [if_neg (by omega), if_pos (by omega), if_pos (by omega)]
    have h2 := dI_lt s (2 * (k / 2))
    unfold parF
    rw [show 2 * (k / 2) + 1 = k by omega, UInt8.toNat_ofNat_of_lt' (by show _ < 256; omega), Nat.mul_comm]
theorem gK_upd (s : ByteArray) (k i : Nat) : upd (gK s k) (k / 2) (gK s (k + 1) (k / 2)) i = gK s (k + 1) i := by
  unfold upd
  by_cases h : i = k / 2
  · rw [if_pos h, h]
  · rw [if_neg h]
    unfold gK
    by_cases h1 : 2 * i + 1 < k
    · rw [if_pos h1, if_pos (by omega)]
    · rw [if_neg h1, if_neg (by omega), if_neg (by omega), if_neg (by omega)]
set_option maxHeartbeats 1000000 in
theorem parse_any (s : ByteArray) (hs : s.size ≤ maxLen) (w : World) :
    Calls Tryd.prog 29 #[.string s] w (Post w (parseV s)) := by
  unfold maxLen at hs
  by_cases h64 : s.size = 64
  · have h0 : ((s.size : Int) != 64) = false := by rw [h64]; rfl
    have H64 := Lib.hid h64
    clear h64
    go_enter Tryd.func29, Tryd.ntmps29
    go_wp2
    go_loopw [12] (fun i wr => ∃ k : Nat, k ≤ 64 ∧ i = I k ∧ Hid (∀ j, j < k → 0 ≤ dI s j) ∧ Ex (w.alloc (.cells (rowB 32 (gK s k)) 46)) wr) (fun i _ => 64 - (intOf i).toNat)
    case atStart => exact ⟨0, by omega, rfl, Lib.hid fun j hj => by omega, ex_refl _⟩
    case round =>
      obtain ⟨k, hk, rfl, HQ, X, rfl⟩ := hrel
      have hz1 : (s.size : Int) ≤ 64 := by rw [H64.out]; omega
      have hz2 : (64 : Int) ≤ (s.size : Int) := by rw [H64.out]; omega
      by_cases hlt : k < 64
      · have hlt' : (k : Int) < s.size := by omega
        have hk2 : (k : Int) / 2 < 32 := by omega
        have hk3 : k / 2 < 32 := by omega
        obtain ⟨d, hd⟩ : ∃ d, digitI (bn (sb s k)) = d := ⟨_, rfl⟩
        have hd2 := dI_lt s k
        have hdd : dI s k = d := hd
        rw [hdd] at hd2
        have HD := Lib.hid hdd
        have hcall : ∀ w, Calls Tryd.prog 42 #[.string ⟨#[48, 49, 50, 51, 52, 53, 54, 55, 56, 57, 97, 98, 99, 100, 101, 102]⟩, .int .u8 (bn (sb s k))] w fun e w' => e = .returned (I d) ∧ w = w' := by
          intro w; rw [← hd]; exact digit_index (sb s k) w
        have HC := Lib.hid hcall
        clear hd hdd hcall
        by_cases hn : d < 0
        · have hv : parseV s = .tuple #[.agg (rowB 32 fun _ => 0), I 130] := if_neg fun h => by have := h.2 k hlt; rw [HD.out] at this; omega
          have HV := Lib.hid hv
          clear hv
          go_wp2_with (go_at_call 42; refine (HC.out _).mono ?_; rintro e w' ⟨rfl, rfl⟩)
          exact ret_row2 (cs := rowB 32 fun _ => 0) (v := I 130) Tryd.results29 Tryd.underlying46 rfl info_id rfl (by simp [go_sem]) rfl rfl (post_mk (by rw [HV.out]) (by repeat (first | exact ex_refl _ | refine ex_appR ?_ _ | refine ex_wx ?_ _ | refine ex_drew ?_ | refine ex_alloc ?_ _)))
        · go_wp2_with (go_at_call 42; refine (HC.out _).mono ?_; rintro e w' ⟨rfl, rfl⟩)
          refine ⟨⟨k + 1, by omega, by go_num, Lib.hid fun j hj => ?_, ?_⟩, by simp [intOf]; omega⟩
          · by_cases h : j = k
            · rw [h, HD.out]; omega
            · exact HQ.out j (by omega)
          · have e : bits BinOp.or IntKind.u8 (bn (gK s k (k / 2)) * 16 % 256) d = bn (gK s (k + 1) (k / 2)) := by
              have h1 := or16 (gK s k (k / 2)) d (by omega) (by omega)
              rw [h1, ← HD.out, gK_step s k]
            rw [e, rowB_set, show rowB 32 (upd (gK s k) (k / 2) (gK s (k + 1) (k / 2))) = rowB 32 (gK s (k + 1)) from rowB_congr fun i hi => gK_upd s k i]
            exact (by repeat (first | exact ex_refl _ | refine ex_appR ?_ _ | refine ex_wx ?_ _ | refine ex_drew ?_ | refine ex_alloc ?_ _))
      · obtain rfl : k = 64 := by omega
        have hv : parseV s = .tuple #[.agg (rowB 32 (parF s)), I 0] := if_pos ⟨H64.out, HQ.out⟩
        have HV := Lib.hid hv
        have hR : rowB 32 (gK s 64) = rowB 32 (parF s) := rowB_congr fun i hi => by unfold gK; rw [if_pos (by omega)]
        rw [hR]
        clear hlt hk hv hR
        go_wp2
        exact ret_row2 (cs := rowB 32 (parF s)) (v := I 0) Tryd.results29 Tryd.underlying46 rfl info_id rfl (by simp [go_sem]) rfl rfl (post_mk (by rw [HV.out]) (by repeat (first | exact ex_refl _ | refine ex_appR ?_ _ | refine ex_wx ?_ _ | refine ex_drew ?_ | refine ex_alloc ?_ _)))
  · have h0 : ((s.size : Int) != 64) = true := by rw [bne_iff_ne]; omega
    have hv : parseV s = .tuple #[.agg (rowB 32 fun _ => 0), I 130] := if_neg fun h => h64 h.1
    have HV := Lib.hid hv
    clear hv h64
    go_enter Tryd.func29, Tryd.ntmps29
    go_wp2
    exact ret_row2 (cs := rowB 32 fun _ => 0) (v := I 130) Tryd.results29 Tryd.underlying46 rfl info_id rfl (by simp [go_sem]) rfl rfl (post_mk (by rw [HV.out]) (by repeat (first | exact ex_refl _ | refine ex_appR ?_ _ | refine ex_wx ?_ _ | refine ex_drew ?_ | refine ex_alloc ?_ _)))
theorem digit_at (x : UInt8) (w : World) : Calls Tryd.prog 16 #[.int .u8 (bn x)] w fun e w' => e = .returned (I (digitI (bn x))) ∧ w = w' := by
  have h := bn_lt x
  exact digit_any (bn x) w h.1 (by omega)
set_option maxHeartbeats 1000000 in
theorem refparse_any (s : ByteArray) (hs : s.size ≤ maxLen) (w : World) :
    Calls Tryd.prog 30 #[.string s] w (Post w (refparseV s)) := by
  unfold maxLen at hs
  by_cases h64 : s.size = 64
  · have h0 : ((s.size : Int) != 64) = false := by rw [h64]; rfl
    have H64 := Lib.hid h64
    clear h64
    go_enter Tryd.func30, Tryd.ntmps30
    go_wp2
    go_loopw [12] (fun i wr => ∃ k : Nat, k ≤ 32 ∧ i = I k ∧ Hid (∀ j, j < 2 * k → 0 ≤ dI s j) ∧ ∃ G, Hid (∀ j, j < k → G j = parF s j) ∧ Ex ((w.alloc (.cells (rowB 32 fun _ => 0) 46)).alloc (.cells (rowB 32 G) 46)) wr) (fun i _ => 32 - (intOf i).toNat)
    case atStart => exact ⟨0, by omega, rfl, Lib.hid fun j hj => by omega, _, Lib.hid fun j hj => by omega, ex_refl _⟩
    case round =>
      obtain ⟨k, hk, rfl, HQ, G, HG, X, rfl⟩ := hrel
      have hz1 : (s.size : Int) ≤ 64 := by rw [H64.out]; omega
      have hz2 : (64 : Int) ≤ (s.size : Int) := by rw [H64.out]; omega
      by_cases hlt : k < 32
      · have hlt1 : 2 * (k : Int) < s.size := by omega
        have hlt2 : 2 * (k : Int) + 1 < s.size := by omega
        have hlt3 : 0 ≤ 2 * (k : Int) := by omega
        have hlt4 : 0 ≤ 2 * (k : Int) + 1 := by omega
        have e1 : (2 * (k : Int) + 1).toNat = 2 * k + 1 := by omega
        have e2 : (2 * (k : Int)).toNat = 2 * k := by omega
        obtain ⟨d, hd⟩ : ∃ d, digitI (bn (sb s (2 * k))) = d := ⟨_, rfl⟩
        obtain ⟨d', hd'⟩ : ∃ d, digitI (bn (sb s (2 * k + 1))) = d := ⟨_, rfl⟩
        have hd2 := dI_lt s (2 * k)
        have hd3 := dI_lt s (2 * k + 1)
        have hdd : dI s (2 * k) = d := hd
        have hdd' : dI s (2 * k + 1) = d' := hd'
        rw [hdd] at hd2
        rw [hdd'] at hd3
        have HD := Lib.hid hdd
        have HD' := Lib.hid hdd'
        have hcall : ∀ w, Calls Tryd.prog 16 #[.int .u8 (bn (sb s (2 * k)))] w fun e w' => e = .returned (I d) ∧ w = w' := by
          intro w; rw [← hd]; exact digit_at _ w
        have hcall' : ∀ w, Calls Tryd.prog 16 #[.int .u8 (bn (sb s (2 * k + 1)))] w fun e w' => e = .returned (I d') ∧ w = w' := by
          intro w; rw [← hd']; exact digit_at _ w
        have HC := Lib.hid hcall
        have HC' := Lib.hid hcall'
        clear hd hdd hcall hd' hdd' hcall'
        by_cases hn : d < 0 ∨ d' < 0
        · have hv : refparseV s = .tuple #[.agg (rowB 32 fun _ => 0), .bool false] := if_neg fun h => by
            have h1 := h.2 (2 * k) (by omega)
            have h2 := h.2 (2 * k + 1) (by omega)
            rw [HD.out] at h1; rw [HD'.out] at h2; omega
          have HV := Lib.hid hv
          have hb : d < 0 ∨ (¬ d < 0 ∧ d' < 0) := by omega
          clear hv hn
          rcases hb with hn | ⟨hn, hn2⟩
          all_goals
            go_wp2
            refine wp_region_mix [(0, true), (1, true), (2, true), (3, true), (5, true), (6, true), (7, true), (8, true), (9, true), (4, false), (10, false), (11, true), (12, true)] 13 (by kernel_rfl) (by kernel_rfl) (fun _ _ d _ _ h => by cases d <;> exact h) ?_
            simp only [List.map_cons, List.map_nil, nth, List.drop_succ_cons, List.drop_zero]
            repeat (first | (refine wpMix_look ?_; go_big_quiet_step (fail); refine wpQuiet_nil ?_) | (refine wpMix_eff rfl (fun X1 => ?_); go_wp2_with ((go_at_call 16; first | ((with_reducible refine (HC.out _).mono ?_); rintro e w' ⟨rfl, rfl⟩) | ((with_reducible refine (HC'.out _).mono ?_); rintro e w' ⟨rfl, rfl⟩))); refine mixQ_mk (by first | exact ex_refl _ | exact ⟨_, rfl⟩ | exact ex_app _ _ _ | (simp only [wx_wx, wx_drew]; first | exact ex_refl _ | exact ex_app _ _ _ | exact ⟨_, rfl⟩) | (repeat (first | exact ex_refl _ | refine ex_drew ?_ | refine ex_alloc ?_ _ | refine ex_wx ?_ _))) ?_))
            refine wpMix_nil (fun X2 => ?_)
            go_wp2
            exact ret_row2 (cs := rowB 32 fun _ => 0) (v := .bool false) Tryd.results30 Tryd.underlying46 rfl info_id rfl (by simp [go_sem]) rfl rfl (post_mk (by rw [HV.out]) (by repeat (first | exact ex_refl _ | refine ex_appR ?_ _ | refine ex_wx ?_ _ | refine ex_drew ?_ | refine ex_alloc ?_ _)))
        · have hn1 : ¬ d < 0 := by omega
          have hn2 : ¬ d' < 0 := by omega
          clear hn
          go_wp2
          refine wp_region_mix [(0, true), (1, true), (2, true), (3, true), (5, true), (6, true), (7, true), (8, true), (9, true), (4, false), (10, false), (11, true), (12, true)] 13 (by kernel_rfl) (by kernel_rfl) (fun _ _ d _ _ h => by cases d <;> exact h) ?_
          simp only [List.map_cons, List.map_nil, nth, List.drop_succ_cons, List.drop_zero]
          repeat (first | (refine wpMix_look ?_; go_big_quiet_step (fail); refine wpQuiet_nil ?_) | (refine wpMix_eff rfl (fun X1 => ?_); go_wp2_with ((go_at_call 16; first | ((with_reducible refine (HC.out _).mono ?_); rintro e w' ⟨rfl, rfl⟩) | ((with_reducible refine (HC'.out _).mono ?_); rintro e w' ⟨rfl, rfl⟩))); refine mixQ_mk (by first | exact ex_refl _ | exact ⟨_, rfl⟩ | exact ex_app _ _ _ | (simp only [wx_wx, wx_drew]; first | exact ex_refl _ | exact ex_app _ _ _ | exact ⟨_, rfl⟩) | (repeat (first | exact ex_refl _ | refine ex_drew ?_ | refine ex_alloc ?_ _ | refine ex_wx ?_ _))) ?_))
          refine wpMix_nil (fun X2 => ?_)
          go_wp2
          have e : 16 * d + d' = bn (parF s k) := by
            unfold parF bn
            rw [HD.out, HD'.out, UInt8.toNat_ofNat_of_lt' (by show _ < 256; omega)]; omega
          rw [e, rowB_set]
          refine ⟨⟨k + 1, by omega, by go_num, Lib.hid fun j hj => ?_, upd G k (parF s k), Lib.hid fun j hj => ?_, (by repeat (first | exact ex_refl _ | refine ex_appR ?_ _ | refine ex_wx ?_ _ | refine ex_drew ?_ | refine ex_alloc ?_ _))⟩, by simp [intOf]; omega⟩
          · by_cases h : j < 2 * k
            · exact HQ.out j h
            · by_cases h2 : j = 2 * k
              · rw [h2, HD.out]; omega
              · rw [show j = 2 * k + 1 by omega, HD'.out]; omega
          · unfold upd
            by_cases h : j = k
            · rw [if_pos h, h]
            · rw [if_neg h]; exact HG.out j (by omega)
      · obtain rfl : k = 32 := by omega
        have hv : refparseV s = .tuple #[.agg (rowB 32 (parF s)), .bool true] := if_pos ⟨H64.out, HQ.out⟩
        have HV := Lib.hid hv
        have hR : rowB 32 G = rowB 32 (parF s) := rowB_congr fun i hi => HG.out i hi
        rw [hR]
        clear hlt hk hv hR HG HQ
        go_wp2
        exact ret_row2 (cs := rowB 32 (parF s)) (v := .bool true) Tryd.results30 Tryd.underlying46 rfl info_id rfl (by simp [go_sem]) rfl rfl (post_mk (by rw [HV.out]) (by repeat (first | exact ex_refl _ | refine ex_appR ?_ _ | refine ex_wx ?_ _ | refine ex_drew ?_ | refine ex_alloc ?_ _)))
  · have h0 : ((s.size : Int) != 64) = true := by rw [bne_iff_ne]; omega
    have hv : refparseV s = .tuple #[.agg (rowB 32 fun _ => 0), .bool false] := if_neg fun h => h64 h.1
    have HV := Lib.hid hv
    clear hv h64
    go_enter Tryd.func30, Tryd.ntmps30
    go_wp2
    exact ret_row2 (cs := rowB 32 fun _ => 0) (v := .bool false) Tryd.results30 Tryd.underlying46 rfl info_id rfl (by simp [go_sem]) rfl rfl (post_mk (by rw [HV.out]) (by repeat (first | exact ex_refl _ | refine ex_appR ?_ _ | refine ex_wx ?_ _ | refine ex_drew ?_ | refine ex_alloc ?_ _)))
end Go.Proofs.YtbebehcalephfaaDoor
