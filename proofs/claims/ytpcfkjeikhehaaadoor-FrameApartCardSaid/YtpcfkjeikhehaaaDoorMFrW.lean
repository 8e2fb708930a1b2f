import Derived.Test.YtpcfkjeikhehaaaDoorMCat
import Derived.Test.YtpcfkjeikhehaaaDoorMFGlob

/- wakes of the frame's laws. -/
set_option linter.unusedSimpArgs false
set_option linter.unusedVariables false
set_option maxRecDepth 20000
namespace Go.Proofs.YtpcfkjeikhehaaaDoor
open Go.RowKit
def m0 : Ms := ⟨2, 1, 2, 300, 0, 0, [], 0, true, [], []⟩
theorem m0_right : rightM m0 = true := by decide
theorem short_300 : shortL 300 = [130, 44] := by
  unfold shortL
  rw [show 300 / 128 = 2 from rfl, upL_pos (by decide), show 2 / 128 = 0 from rfl, upL_zero]; rfl
theorem m0_plain : plainM m0 = [2, 18, 130, 44, 1] := by
  show [byteI 2, byteI 18] ++ shortL 300 ++ [1] ++ _ ++ _ ++ _ ++ _ ++ _ = _
  rw [short_300]; rfl
theorem seal_at (l : List UInt8) (i : Nat) : gF (sealL l) (16 + i) = gF l i := by
  have h16 : ((bytesD (sumD l)).take 16).length = 16 := by rw [List.length_take, bytesD_len]; rfl
  unfold gF sealL
  rw [List.getD_eq_getElem?_getD, List.getD_eq_getElem?_getD, List.getElem?_append_right (by omega), h16, Nat.add_sub_cancel_left]
theorem short_top : (shortL 9223372036854775808).length = 10 := by
  unfold shortL
  rw [List.length_append]
  have h : (upL 72057594037927936).length = 9 := by
    rw [upL_pos (by decide), show 72057594037927936 / 128 = 562949953421312 from rfl, upL_pos (by decide), show 562949953421312 / 128 = 4398046511104 from rfl, upL_pos (by decide), show 4398046511104 / 128 = 34359738368 from rfl, upL_pos (by decide),
      show 34359738368 / 128 = 268435456 from rfl, upL_pos (by decide), show 268435456 / 128 = 2097152 from rfl, upL_pos (by decide), show 2097152 / 128 = 16384 from rfl, upL_pos (by decide), show 16384 / 128 = 128 from rfl, upL_pos (by decide), show 128 / 128 = 1 from rfl, upL_pos (by decide), show 1 / 128 = 0 from rfl, upL_zero]; rfl
  rw [show 9223372036854775808 / 128 = 72057594037927936 from rfl, h]; rfl
theorem long_300 : longL [130, 44, 7] = some (300, 2) := by
  have := long_short 300 [7] (by decide)
  rw [short_300] at this
  exact this
theorem slg_nil (w : World) : SlG w (.slice none 0 0) [] := ⟨none, 0, rfl, by simp, by decide, fun _ => rfl, ⟨Or.inl rfl⟩⟩
theorem slz_nil (w : World) : SlZ w (.slice none 0 0) [] := ⟨none, 0, rfl, by simp, by decide, fun _ => rfl, ⟨Or.inl rfl⟩⟩
theorem m0_val (w : World) : MsV w (.agg #[I 2, I 1, I 2, .int .u64 300, .int .u64 0, .int .u64 0, .slice none 0 0, .int .u64 0, .bool true, .slice none 0 0, .slice none 0 0]) m0 :=
  ⟨_, _, _, rfl, slg_nil w, slz_nil w, slt_nil w⟩
theorem enc0_any (w : World) (G : FGlob w) : Calls Tryd.prog 17 #[.agg #[I 2, I 1, I 2, .int .u64 300, .int .u64 0, .int .u64 0, .slice none 0 0, .int .u64 0, .bool true, .slice none 0 0, .slice none 0 0]] w
    fun e w' => ∃ g off c, e = .returned (.tuple #[.slice (some ⟨g, off, none⟩) 21 c, I 0]) ∧ 21 ≤ c ∧ g < w'.heap.size ∧ w'.cell? ⟨g, off + 17, none⟩ = some (.int .u8 18) ∧ w'.cell? ⟨g, off + 20, none⟩ = some (.int .u8 1) ∧ Ex w w' := by
  refine (encode_any m0 _ w G (m0_val w) (by decide)).mono ?_
  rintro e w' ⟨v, rfl, h1, _, k⟩
  have h2 := (h1 m0_right).slt
  rw [m0_right, m0_plain] at *
  have hl : (sealL [2, 18, 130, 44, 1]).length = 21 := by rw [seal_len]; rfl
  obtain ⟨a, c, rfl, k1, k2, k3, k4⟩ := h2.out
  obtain ⟨g, off, rfl, g1, g2⟩ := k4.row (i := 17) (by rw [hl]; decide)
  obtain ⟨g', off', hg, _, g3⟩ := k4.row (i := 20) (by rw [hl]; decide)
  obtain ⟨rfl, rfl⟩ : g = g' ∧ off = off' := by simpa using hg
  rw [seal_at _ 1] at g2
  rw [seal_at _ 4] at g3
  rw [hl] at k1
  exact ⟨g, off, c, by rw [hl]; rfl, k1, g1, g2, g3, k⟩
theorem slt_three {w w' : World} {t : TypeId} (k : Ex (w.alloc (.cells #[.int .u8 130, .int .u8 44, .int .u8 7] t)) w') : SlT w' (.slice (some ⟨w.heap.size, 0, none⟩) 3 3) [130, 44, 7] := by
  refine ⟨_, 3, rfl, by simp, by decide, (fun h => by cases h), SlL.ex (sll_block (heap_alloc_new _ _) fun j hj => ?_) k⟩
  have : j = 0 ∨ j = 1 ∨ j = 2 := by simp at hj; omega
  rcases this with rfl | rfl | rfl <;> rfl
set_option maxHeartbeats 1000000 in
theorem wakes_any (w : World) (G : FGlob w) : Calls Tryd.prog 9 #[] w (Post w (.bool true)) := by
  have HE := Lib.hid (fun w' (k : Ex w w') => enc0_any w' (G.ex k))
  have HL : Hid (∀ v w', SlT w' v [130, 44, 7] → Calls Tryd.prog 13 #[v] w' (Post w' (.tuple #[.int .u64 300, I 2, .bool true]))) := Lib.hid (fun v w' hs => by
    have h9 := long_any [130, 44, 7] v w' hs
    rw [long_300] at h9
    exact h9)
  have HS : Hid (∀ w', Calls Tryd.prog 11 #[.int .u64 9223372036854775808] w' (PostOw w' (shortL 9223372036854775808))) := Lib.hid (fun w' => short_any 9223372036854775808 w' (by decide))
  go_enter Tryd.func9, Tryd.ntmps9
  go_wp2_with (go_at_call 17; (with_reducible refine (HE.out _ (by (try show Ex _ _); repeat (first | (with_reducible exact ex_refl _) | (with_reducible assumption) | (with_reducible refine ex_drewL ?_) | (with_reducible refine ex_appR ?_ _) | (with_reducible refine ex_wx ?_ _) | (with_reducible refine ex_drew ?_) | (with_reducible refine ex_alloc ?_ _)))).mono ?_); rintro e w2 ⟨g, off, c, rfl, h1, h2, h3, h4, K2⟩)
  go_wp2_with (go_at_call 13; (with_reducible refine (HL.out _ _ (slt_three (by (try show Ex _ _); repeat (first | (with_reducible exact ex_refl _) | (with_reducible assumption) | (with_reducible refine ex_drewL ?_) | (with_reducible refine ex_appR ?_ _) | (with_reducible refine ex_wx ?_ _) | (with_reducible refine ex_drew ?_) | (with_reducible refine ex_alloc ?_ _))))).mono ?_); rintro e w3 ⟨rfl, X3, rfl⟩)
  go_wp2_with (go_at_call 11; (with_reducible refine (HS.out _).mono ?_); rintro e w3 ⟨s, rfl, hS, X4, rfl⟩; obtain ⟨a9, c9, hv9, _⟩ := own_form hS; (rw [short_top] at hv9); subst hv9)
  go_ret
  exact post_mk rfl (by (try show Ex _ _); repeat (first | (with_reducible exact ex_refl _) | (with_reducible assumption) | (with_reducible refine ex_drewL ?_) | (with_reducible refine ex_appR ?_ _) | (with_reducible refine ex_wx ?_ _) | (with_reducible refine ex_drew ?_) | (with_reducible refine ex_alloc ?_ _)))
end Go.Proofs.YtpcfkjeikhehaaaDoor

/- How a row's data open: numbers, rows of bytes. -/
set_option linter.unusedSimpArgs false
set_option linter.unusedVariables false
set_option maxRecDepth 20000
namespace Go.Proofs.YtpcfkjeikhehaaaDoor
open Go.RowKit Go.ChangeShapes Go.WideShapes Go.ChangeAt
def listF (n : Nat) (f : Nat → UInt8) : List UInt8 := (List.range n).map f
theorem listF_len (n : Nat) (f : Nat → UInt8) : (listF n f).length = n := by simp [listF]
theorem listF_at (n : Nat) (f : Nat → UInt8) (i : Nat) (h : i < n) : gF (listF n f) i = f i := by
  unfold gF listF; rw [List.getD_eq_getElem?_getD, List.getElem?_map, List.getElem?_range h]; rfl
theorem slt_of_ok {e : SlE} {w : World} (h : e.ok w) : SlT w e.v (listF e.n e.f) := by
  refine ⟨e.a, e.c, by rw [listF_len]; rfl, by rw [listF_len]; exact h.nc, h.cm, h.nil, ?_⟩
  unfold SlL
  rw [listF_len]
  exact SlB.congr h.at' fun i hi => (listF_at _ _ i hi).symm
theorem SlT.take {w : World} {a : Option Addr} {n c : Nat} {l : List UInt8} (h : SlT w (.slice a n c) l) (k : Nat) (hk : k ≤ l.length) : SlT w (.slice a k c) (l.take k) := by
  obtain ⟨a', c', hv, h1, h2, h3, h4⟩ := h.out
  obtain ⟨rfl, rfl, rfl⟩ : a = a' ∧ n = l.length ∧ c = c' := by simpa using hv
  refine ⟨a, c, by rw [List.length_take, Nat.min_eq_left hk], by rw [List.length_take]; omega, h2, h3, ?_⟩
  unfold SlL at h4 ⊢
  rw [List.length_take, Nat.min_eq_left hk]
  rcases h4.out with h0 | ⟨g, off, h5, h6, h7⟩
  · obtain rfl : k = 0 := by omega
    exact SlB.zero _ _ _
  · subst h5
    refine SlB.mk' h6 fun j hj => ?_
    rw [h7 j (by omega)]
    unfold gF
    rw [List.getD_eq_getElem?_getD, List.getD_eq_getElem?_getD, List.getElem?_take, if_pos hj]
section
variable {H : Type} {enc : TypeId × Value → H} {w : World} {base : Nat} {sp : Nat → Bool} {held : Bool}
theorem c1u64 : Tryd.prog.cellsOf 25 = 1 := by kernel_rfl
theorem c1rb : Tryd.prog.cellsOf 27 = 1 := by kernel_rfl
theorem u64_of_trod {fuel : Nat} {cs : List Value} {x : DataW H × List MemPlace} (h : DataW.trod enc Tryd.prog w base sp held fuel 25 cs = some x) : ∃ y : UInt64, cs = [L y] := by
  obtain ⟨z, rfl, _, hw⟩ := DataW.trod_int Tryd.underlying25 h
  simp only [Lit.wf, Bool.and_eq_true, decide_eq_true_eq] at hw
  obtain ⟨y, rfl⟩ := ln_of z (by simp [IntKind.min, IntKind.max, IntKind.bits, IntKind.signed] at hw; omega)
  exact ⟨y, rfl⟩
theorem argU64s {b0 : Nat} {r : Reach} {v : Value} {d : DataW H} {p : List MemPlace} (h : Value.okWide Tryd.prog w r b0 22 v) (hd : DataW.Trod enc Tryd.prog w base sp held 22 v d p) :
    ∃ (a : Option Addr) (n c : Nat) (E : Nat → UInt64), v = .slice a n c ∧ n ≤ c ∧ c ≤ maxLen ∧ (a = none → c = 0) ∧ SlV w a n (fun i => L (E i)) := by
  obtain ⟨fuel, x, hx⟩ := arg_slice Tryd.underlying22 h hd
  obtain ⟨a, n, c, E, h1, h2, h3, h4, h5⟩ := elems_open (fun y : UInt64 => #[L y]) (fun _ => rfl) Tryd.underlying22 c1u64 (by decide) (fun _ _ _ h => u64_of_trod h) hx
  refine ⟨a, n, c, E, by simpa using h1, h2, h3, h4, ?_⟩
  rcases h5.out with h0 | ⟨g, off, h6, h7, h8⟩
  · exact ⟨Or.inl h0⟩
  · refine ⟨Or.inr ⟨g, off, h6, h7, fun i hi => ?_⟩⟩
    have := (cellsN_some.1 (h8 i hi)).2 0 (Nat.zero_lt_one)
    simpa using this
theorem argRows {b0 : Nat} {r : Reach} {v : Value} {d : DataW H} {p : List MemPlace} (h : Value.okWide Tryd.prog w r b0 23 v) (hd : DataW.Trod enc Tryd.prog w base sp held 23 v d p) :
    ∃ (a : Option Addr) (n c : Nat) (E : Nat → SlE), v = .slice a n c ∧ n ≤ c ∧ c ≤ maxLen ∧ (a = none → c = 0) ∧ SlV w a n (fun i => (E i).v) ∧ ∀ i, i < n → (E i).ok w := by
  obtain ⟨fuel, x, hx⟩ := arg_slice Tryd.underlying23 h hd
  obtain ⟨a, n, c, E, hv, h⟩ := rows_open Tryd.underlying23 Tryd.underlying27 Tryd.underlying5 c1rb cb hx
  exact ⟨a, n, c, E, by simpa using hv, h⟩
theorem argBytes {b0 : Nat} {r : Reach} {v : Value} {d : DataW H} {p : List MemPlace} (h : Value.okWide Tryd.prog w r b0 27 v) (hd : DataW.Trod enc Tryd.prog w base sp held 27 v d p) : ∃ l, SlT w v l := by
  obtain ⟨fuel, x, hx⟩ := arg_slice Tryd.underlying27 h hd
  obtain ⟨a, n, c, f, hv, h1, h2, h3, h4⟩ := slB_open Tryd.underlying27 Tryd.underlying5 cb hx
  obtain rfl : v = .slice a n c := by simpa using hv
  exact ⟨_, slt_of_ok (e := ⟨a, n, c, f⟩) ⟨h1, h2, h3, h4⟩⟩
end
end Go.Proofs.YtpcfkjeikhehaaaDoor
