import Derived.Test.YtpcfkjeikhehaaaDoorMCat
import Derived.Test.YtpcfkjeikhehaaaDoorMOpen
import Derived.Test.YtpcfkjeikhehaaaDoorMFrV

/- wakes of the frame's laws. -/
set_option linter.unusedSimpArgs false
set_option linter.unusedVariables false
set_option maxRecDepth 20000
namespace Go.Proofs.YtpcfkjeikhehaaaDoor
open Go.RowKit
def m0 : Ms := ⟨2, 1, 2, 300, 0, 0, [], 0, true, [], []⟩
theorem m0_right : rightM m0 = true := by decide
theorem short_300 : shortL 300 = [130, 44] := by
  unfold shortL
  rw [show 300 / 128 = 2 from rfl, upL_pos (by decide), show 2 / 128 = 0 from rfl, upL_zero]; rfl
theorem m0_plain : plainM m0 = [2, 18, 130, 44, 1] := by
  show [byteI 2, byteI 18] ++ shortL 300 ++ [1] ++ _ ++ _ ++ _ ++ _ ++ _ = _
  rw [short_300]; rfl
theorem seal_at (l : List UInt8) (i : Nat) : gF (sealL l) (16 + i) = gF l i := by
  have h16 : ((bytesD (sumD l)).take 16).length = 16 := by rw [List.length_take, bytesD_len]; rfl
  unfold gF sealL
  rw [List.getD_eq_getElem?_getD, List.getD_eq_getElem?_getD, List.getElem?_append_right (by omega), h16, Nat.add_sub_cancel_left]
theorem short_top : (shortL 9223372036854775808).length = 10 := by
  unfold shortL
  rw [List.length_append]
  have h : (upL 72057594037927936).length = 9 := by
    rw [upL_pos (by decide), show 72057594037927936 / 128 = 562949953421312 from rfl, upL_pos (by decide), show 562949953421312 / 128 = 4398046511104 from rfl, upL_pos (by decide), show 4398046511104 / 128 = 34359738368 from rfl, upL_pos (by decide),
      show 34359738368 / 128 = 268435456 from rfl, upL_pos (by decide), show 268435456 / 128 = 2097152 from rfl, upL_pos (by decide), show 2097152 / 128 = 16384 from rfl, upL_pos (by decide), show 16384 / 128 = 128 from rfl, upL_pos (by decide), show 128 / 128 = 1 from rfl, upL_pos (by decide), show 1 / 128 = 0 from rfl, upL_zero]; rfl
  rw [show 9223372036854775808 / 128 = 72057594037927936 from rfl, h]; rfl
theorem long_300 : longL [130, 44, 7] = some (300, 2) := by
  have := long_short 300 [7] (by decide)
  rw [short_300] at this
  exact this
theorem slg_nil (w : World) : SlG w (.slice none 0 0) [] := ⟨none, 0, rfl, by simp, by decide, fun _ => rfl, ⟨Or.inl rfl⟩⟩
theorem slz_nil (w : World) : SlZ w (.slice none 0 0) [] := ⟨none, 0, rfl, by simp, by decide, fun _ => rfl, ⟨Or.inl rfl⟩⟩
theorem m0_val (w : World) : MsV w (.agg #[I 2, I 1, I 2, .int .u64 300, .int .u64 0, .int .u64 0, .slice none 0 0, .int .u64 0, .bool true, .slice none 0 0, .slice none 0 0]) m0 :=
  ⟨_, _, _, rfl, slg_nil w, slz_nil w, slt_nil w⟩
theorem enc0_any (w : World) (G : FGlob w) : Calls Tryd.prog 17 #[.agg #[I 2, I 1, I 2, .int .u64 300, .int .u64 0, .int .u64 0, .slice none 0 0, .int .u64 0, .bool true, .slice none 0 0, .slice none 0 0]] w
    fun e w' => ∃ g off c, e = .returned (.tuple #[.slice (some ⟨g, off, none⟩) 21 c, I 0]) ∧ 21 ≤ c ∧ g < w'.heap.size ∧ w'.cell? ⟨g, off + 17, none⟩ = some (.int .u8 18) ∧ w'.cell? ⟨g, off + 20, none⟩ = some (.int .u8 1) ∧ Ex w w' := by
  refine (encode_any m0 _ w G (m0_val w) (by decide)).mono ?_
  rintro e w' ⟨v, rfl, h1, _, k⟩
  have h2 := (h1 m0_right).slt
  rw [m0_right, m0_plain] at *
  have hl : (sealL [2, 18, 130, 44, 1]).length = 21 := by rw [seal_len]; rfl
  obtain ⟨a, c, rfl, k1, k2, k3, k4⟩ := h2.out
  obtain ⟨g, off, rfl, g1, g2⟩ := k4.row (i := 17) (by rw [hl]; decide)
  obtain ⟨g', off', hg, _, g3⟩ := k4.row (i := 20) (by rw [hl]; decide)
  obtain ⟨rfl, rfl⟩ : g = g' ∧ off = off' := by simpa using hg
  rw [seal_at _ 1] at g2
  rw [seal_at _ 4] at g3
  rw [hl] at k1
  exact ⟨g, off, c, by rw [hl]; rfl, k1, g1, g2, g3, k⟩
theorem slt_three {w w' : World} {t : TypeId} (k : Ex (w.alloc (.cells #[.int .u8 130, .int .u8 44, .int .u8 7] t)) w') : SlT w' (.slice (some ⟨w.heap.size, 0, none⟩) 3 3) [130, 44, 7] := by
  refine ⟨_, 3, rfl, by simp, by decide, (fun h => by cases h), SlL.ex (sll_block (heap_alloc_new _ _) fun j hj => ?_) k⟩
  have : j = 0 ∨ j = 1 ∨ j = 2 := by simp at hj; omega
  rcases this with rfl | rfl | rfl <;> rfl
set_option maxHeartbeats 1000000 in
theorem wakes_any (w : World) (G : FGlob w) : Calls Tryd.prog 9 #[] w (Post w (.bool true)) := by
  have HE := Lib.hid (fun w' (k : Ex w w') => enc0_any w' (G.ex k))
  have HL : Hid (∀ v w', SlT w' v [130, 44, 7] → Calls Tryd.prog 13 #[v] w' (Post w' (.tuple #[.int .u64 300, I 2, .bool true]))) := Lib.hid (fun v w' hs => by
    have h9 := long_any [130, 44, 7] v w' hs
    rw [long_300] at h9
    exact h9)
  have HS : Hid (∀ w', Calls Tryd.prog 11 #[.int .u64 9223372036854775808] w' (PostOw w' (shortL 9223372036854775808))) := Lib.hid (fun w' => short_any 9223372036854775808 w' (by decide))
  go_enter Tryd.func9, Tryd.ntmps9
  go_wp2_with (go_at_call 17; (with_reducible refine (HE.out _ (by (try show Ex _ _); repeat (first | (with_reducible exact ex_refl _) | (with_reducible assumption) | (with_reducible refine ex_drewL ?_) | (with_reducible refine ex_appR ?_ _) | (with_reducible refine ex_wx ?_ _) | (with_reducible refine ex_drew ?_) | (with_reducible refine ex_alloc ?_ _)))).mono ?_); rintro e w2 ⟨g, off, c, rfl, h1, h2, h3, h4, K2⟩)
  go_wp2_with (go_at_call 13; (with_reducible refine (HL.out _ _ (slt_three (by (try show Ex _ _); repeat (first | (with_reducible exact ex_refl _) | (with_reducible assumption) | (with_reducible refine ex_drewL ?_) | (with_reducible refine ex_appR ?_ _) | (with_reducible refine ex_wx ?_ _) | (with_reducible refine ex_drew ?_) | (with_reducible refine ex_alloc ?_ _))))).mono ?_); rintro e w3 ⟨rfl, X3, rfl⟩)
  go_wp2_with (go_at_call 11; (with_reducible refine (HS.out _).mono ?_); rintro e w3 ⟨s, rfl, hS, X4, rfl⟩; obtain ⟨a9, c9, hv9, _⟩ := own_form hS; (rw [short_top] at hv9); subst hv9)
  go_ret
  exact post_mk rfl (by (try show Ex _ _); repeat (first | (with_reducible exact ex_refl _) | (with_reducible assumption) | (with_reducible refine ex_drewL ?_) | (with_reducible refine ex_appR ?_ _) | (with_reducible refine ex_wx ?_ _) | (with_reducible refine ex_drew ?_) | (with_reducible refine ex_alloc ?_ _)))
end Go.Proofs.YtpcfkjeikhehaaaDoor

/- How a row's data open: numbers, rows of bytes. -/
set_option linter.unusedSimpArgs false
set_option linter.unusedVariables false
set_option maxRecDepth 20000
namespace Go.Proofs.YtpcfkjeikhehaaaDoor
open Go.RowKit Go.ChangeShapes Go.WideShapes Go.ChangeAt
def listF (n : Nat) (f : Nat → UInt8) : List UInt8 := (List.range n).map f
theorem listF_len (n : Nat) (f : Nat → UInt8) : (listF n f).length = n := by simp [listF]
theorem listF_at (n : Nat) (f : Nat → UInt8) (i : Nat) (h : i < n) : gF (listF n f) i = f i := by
  unfold gF listF; rw [List.getD_eq_getElem?_getD, List.getElem?_map, List.getElem?_range h]; rfl
theorem slt_of_ok {e : SlE} {w : World} (h : e.ok w) : SlT w e.v (listF e.n e.f) := by
  refine ⟨e.a, e.c, by rw [listF_len]; rfl, by rw [listF_len]; exact h.nc, h.cm, h.nil, ?_⟩
  unfold SlL
  rw [listF_len]
  exact SlB.congr h.at' fun i hi => (listF_at _ _ i hi).symm
theorem SlT.take {w : World} {a : Option Addr} {n c : Nat} {l : List UInt8} (h : SlT w (.slice a n c) l) (k : Nat) (hk : k ≤ l.length) : SlT w (.slice a k c) (l.take k) := by
  obtain ⟨a', c', hv, h1, h2, h3, h4⟩ := h.out
  obtain ⟨rfl, rfl, rfl⟩ : a = a' ∧ n = l.length ∧ c = c' := by simpa using hv
  refine ⟨a, c, by rw [List.length_take, Nat.min_eq_left hk], by rw [List.length_take]; omega, h2, h3, ?_⟩
  unfold SlL at h4 ⊢
  rw [List.length_take, Nat.min_eq_left hk]
  rcases h4.out with h0 | ⟨g, off, h5, h6, h7⟩
  · obtain rfl : k = 0 := by omega
    exact SlB.zero _ _ _
  · subst h5
    refine SlB.mk' h6 fun j hj => ?_
    rw [h7 j (by omega)]
    unfold gF
    rw [List.getD_eq_getElem?_getD, List.getD_eq_getElem?_getD, List.getElem?_take, if_pos hj]
section
variable {H : Type} {enc : TypeId × Value → H} {w : World} {base : Nat} {sp : Nat → Bool} {held : Bool}
theorem c1u64 : Tryd.prog.cellsOf 25 = 1 := by kernel_rfl
theorem c1rb : Tryd.prog.cellsOf 27 = 1 := by kernel_rfl
theorem u64_of_trod {fuel : Nat} {cs : List Value} {x : DataW H × List MemPlace} (h : DataW.trod enc Tryd.prog w base sp held fuel 25 cs = some x) : ∃ y : UInt64, cs = [L y] := by
  obtain ⟨z, rfl, _, hw⟩ := DataW.trod_int Tryd.underlying25 h
  simp only [Lit.wf, Bool.and_eq_true, decide_eq_true_eq] at hw
  obtain ⟨y, rfl⟩ := ln_of z (by simp [IntKind.min, IntKind.max, IntKind.bits, IntKind.signed] at hw; omega)
  exact ⟨y, rfl⟩
theorem argU64s {b0 : Nat} {r : Reach} {v : Value} {d : DataW H} {p : List MemPlace} (h : Value.okWide Tryd.prog w r b0 22 v) (hd : DataW.Trod enc Tryd.prog w base sp held 22 v d p) :
    ∃ (a : Option Addr) (n c : Nat) (E : Nat → UInt64), v = .slice a n c ∧ n ≤ c ∧ c ≤ maxLen ∧ (a = none → c = 0) ∧ SlV w a n (fun i => L (E i)) := by
  obtain ⟨fuel, x, hx⟩ := arg_slice Tryd.underlying22 h hd
  obtain ⟨a, n, c, E, h1, h2, h3, h4, h5⟩ := elems_open (fun y : UInt64 => #[L y]) (fun _ => rfl) Tryd.underlying22 c1u64 (by decide) (fun _ _ _ h => u64_of_trod h) hx
  refine ⟨a, n, c, E, by simpa using h1, h2, h3, h4, ?_⟩
  rcases h5.out with h0 | ⟨g, off, h6, h7, h8⟩
  · exact ⟨Or.inl h0⟩
  · refine ⟨Or.inr ⟨g, off, h6, h7, fun i hi => ?_⟩⟩
    have := (cellsN_some.1 (h8 i hi)).2 0 (Nat.zero_lt_one)
    simpa using this
theorem argRows {b0 : Nat} {r : Reach} {v : Value} {d : DataW H} {p : List MemPlace} (h : Value.okWide Tryd.prog w r b0 23 v) (hd : DataW.Trod enc Tryd.prog w base sp held 23 v d p) :
    ∃ (a : Option Addr) (n c : Nat) (E : Nat → SlE), v = .slice a n c ∧ n ≤ c ∧ c ≤ maxLen ∧ (a = none → c = 0) ∧ SlV w a n (fun i => (E i).v) ∧ ∀ i, i < n → (E i).ok w := by
  obtain ⟨fuel, x, hx⟩ := arg_slice Tryd.underlying23 h hd
  obtain ⟨a, n, c, E, hv, h⟩ := rows_open Tryd.underlying23 Tryd.underlying27 Tryd.underlying5 c1rb cb hx
  exact ⟨a, n, c, E, by simpa using hv, h⟩
theorem argBytes {b0 : Nat} {r : Reach} {v : Value} {d : DataW H} {p : List MemPlace} (h : Value.okWide Tryd.prog w r b0 27 v) (hd : DataW.Trod enc Tryd.prog w base sp held 27 v d p) : ∃ l, SlT w v l := by
  obtain ⟨fuel, x, hx⟩ := arg_slice Tryd.underlying27 h hd
  obtain ⟨a, n, c, f, hv, h1, h2, h3, h4⟩ := slB_open Tryd.underlying27 Tryd.underlying5 cb hx
  obtain rfl : v = .slice a n c := by simpa using hv
  exact ⟨_, slt_of_ok (e := ⟨a, n, c, f⟩) ⟨h1, h2, h3, h4⟩⟩
end
end Go.Proofs.YtpcfkjeikhehaaaDoor

/- How a message's data open. -/
set_option linter.unusedSimpArgs false
set_option linter.unusedVariables false
set_option maxRecDepth 20000
namespace Go.Proofs.YtpcfkjeikhehaaaDoor
open Go.RowKit Go.ChangeShapes Go.WideShapes Go.ChangeAt
theorem cmsg : Tryd.prog.cellsOf 41 = 11 := by kernel_rfl
theorem cent : Tryd.prog.cellsOf 60 = 3 := by kernel_rfl
theorem cat_ : Tryd.prog.cellsOf 35 = 2 := by kernel_rfl
theorem cconf : Tryd.prog.cellsOf 39 = 1 := by kernel_rfl
theorem cint : Tryd.prog.cellsOf 3 = 1 := by kernel_rfl
theorem cbool : Tryd.prog.cellsOf 4 = 1 := by kernel_rfl
theorem cents : Tryd.prog.cellsOf 36 = 1 := by kernel_rfl
theorem cints : Tryd.prog.cellsOf 37 = 1 := by kernel_rfl
def mkL {α : Type} (n : Nat) (E : Nat → α) : List α := (List.range n).map E
theorem mkL_len {α : Type} (n : Nat) (E : Nat → α) : (mkL n E).length = n := by simp [mkL]
theorem mkL_get {α : Type} {n : Nat} {E : Nat → α} {i : Nat} {e : α} (h : (mkL n E)[i]? = some e) : i < n ∧ E i = e := by
  have hi : i < n := by
    have := (List.getElem?_eq_some_iff.1 h).1
    rwa [mkL_len] at this
  unfold mkL at h
  rw [List.getElem?_map, List.getElem?_range hi] at h
  exact ⟨hi, by simpa using h⟩
section
variable {H : Type} {enc : TypeId × Value → H} {w : World} {base : Nat} {sp : Nat → Bool} {held : Bool}
theorem bytes_of_trod {fuel : Nat} {cs : List Value} {x : DataW H × List MemPlace} (h : DataW.trod enc Tryd.prog w base sp held fuel 27 cs = some x) : ∃ v l, cs = [v] ∧ SlT w v l := by
  obtain ⟨a, n, c, f, hv, h1, h2, h3, h4⟩ := slB_open Tryd.underlying27 Tryd.underlying5 cb h
  exact ⟨_, _, hv, slt_of_ok (e := ⟨a, n, c, f⟩) ⟨h1, h2, h3, h4⟩⟩
theorem int_of_trod {fuel : Nat} {cs : List Value} {x : DataW H × List MemPlace} (h : DataW.trod enc Tryd.prog w base sp held fuel 3 cs = some x) : ∃ n : Int, cs = [I n] := by
  obtain ⟨n, hn, _⟩ := DataW.trod_int Tryd.underlying3 h
  exact ⟨n, hn⟩
theorem ints_of_trod {fuel : Nat} {cs : List Value} {x : DataW H × List MemPlace} (h : DataW.trod enc Tryd.prog w base sp held fuel 37 cs = some x) : ∃ v l, cs = [v] ∧ SlZ w v l := by
  obtain ⟨a, n, c, E, h1, h2, h3, h4, h5⟩ := elems_open (fun y : Int => #[I y]) (fun _ => rfl) Tryd.underlying37 cint (by decide) (fun _ _ _ h => int_of_trod h) h
  refine ⟨_, mkL n E, h1, a, c, by rw [mkL_len], by rw [mkL_len]; exact h2, h3, h4, ?_⟩
  rcases h5.out with rfl | ⟨g, off, h6, h7, h8⟩
  · exact ⟨Or.inl rfl⟩
  · refine ⟨Or.inr ⟨g, off, h6, h7, fun i y hy => ?_⟩⟩
    obtain ⟨hi, rfl⟩ := mkL_get hy
    have := (cellsN_some.1 (h8 i hi)).2 0 (Nat.zero_lt_one)
    simpa using this
theorem en_of_trod {fuel : Nat} {cs : List Value} {x : DataW H × List MemPlace} (h : DataW.trod enc Tryd.prog w base sp held fuel 60 cs = some x) : ∃ p : En × Value, cs = [L p.1.1, I p.1.2.1, p.2] ∧ SlT w p.2 p.1.2.2 := by
  obtain ⟨xs, m, _, _, hl, hxl, hel⟩ := DataW.trod_struct Tryd.underlying60 h
  rw [cent] at hl
  have hxl' : xs.length = 3 := hxl
  have e0 : DataW.trod enc Tryd.prog w base sp held m 25 ((cs.drop 0).take (Tryd.prog.cellsOf 25)) = xs[0]? := hel 0 _ rfl
  have e1 : DataW.trod enc Tryd.prog w base sp held m 3 ((cs.drop 1).take (Tryd.prog.cellsOf 3)) = xs[1]? := hel 1 _ rfl
  have e2 : DataW.trod enc Tryd.prog w base sp held m 27 ((cs.drop 2).take (Tryd.prog.cellsOf 27)) = xs[2]? := hel 2 _ rfl
  rw [c1u64] at e0
  rw [cint] at e1
  rw [c1rb] at e2
  rw [List.getElem?_eq_getElem (by omega)] at e0 e1 e2
  obtain ⟨t, ht⟩ := u64_of_trod e0
  obtain ⟨k, hk⟩ := int_of_trod e1
  obtain ⟨v, d, hd, sd⟩ := bytes_of_trod e2
  obtain ⟨a1, a2, a3, rfl⟩ : ∃ a b c, cs = [a, b, c] := by
    match cs, hl with
    | [a, b, c], _ => exact ⟨a, b, c, rfl⟩
  simp at ht hk hd
  subst ht hk hd
  exact ⟨((t, k, d), _), rfl, sd⟩
theorem ents_of_trod {fuel : Nat} {cs : List Value} {x : DataW H × List MemPlace} (h : DataW.trod enc Tryd.prog w base sp held fuel 36 cs = some x) : ∃ v l, cs = [v] ∧ SlG w v l := by
  obtain ⟨a, len, cap, rfl, h1, h2, h3, h4⟩ := slice_open Tryd.underlying36 cent (by decide) h
  rcases h4 with rfl | ⟨g, off, rfl, hg, hi⟩
  · exact ⟨_, [], rfl, a, cap, rfl, h1, h2, h3, ⟨Or.inl rfl⟩⟩
  · have hx : ∀ i, ∃ p : En × Value, i < len → w.cell? ⟨g, off + i * 3, none⟩ = some (L p.1.1) ∧ w.cell? ⟨g, off + i * 3 + 1, none⟩ = some (I p.1.2.1) ∧ w.cell? ⟨g, off + i * 3 + 2, none⟩ = some p.2 ∧ SlT w p.2 p.1.2.2 := by
      intro i
      by_cases hil : i < len
      · obtain ⟨ecs, f', y, hc, hy⟩ := hi i hil
        obtain ⟨p, rfl, hp⟩ := en_of_trod hy
        obtain ⟨v0, hv0, hw0⟩ := hc 0 (by decide)
        obtain ⟨v1, hv1, hw1⟩ := hc 1 (by decide)
        obtain ⟨v2, hv2, hw2⟩ := hc 2 (by decide)
        simp at hv0 hv1 hv2
        subst hv0 hv1 hv2
        exact ⟨p, fun _ => ⟨hw0, by rw [Nat.add_assoc]; exact hw1, by rw [Nat.add_assoc]; exact hw2, hp⟩⟩
      · exact ⟨((0, 0, []), undef), fun h => absurd h hil⟩
    obtain ⟨E, hE⟩ := Classical.skolem.1 hx
    refine ⟨_, mkL len fun i => (E i).1, rfl, some ⟨g, off, none⟩, cap, by rw [mkL_len], by rw [mkL_len]; exact h1, h2, h3, ⟨Or.inr ⟨g, off, fun i => (E i).2, rfl, hg, fun i e he => ?_⟩⟩⟩
    obtain ⟨hil, rfl⟩ := mkL_get he
    exact hE i hil
theorem argMsg {b0 : Nat} {r : Reach} {v : Value} {d : DataW H} {p : List MemPlace} (h : Value.okWide Tryd.prog w r b0 41 v) (hd : DataW.Trod enc Tryd.prog w base sp held 41 v d p) : ∃ m : Ms, MsV w v m := by
  obtain ⟨cs, rfl, _⟩ := okWide_struct Tryd.underlying41 h
  obtain ⟨fuel, hf⟩ := hd
  obtain ⟨xs, m, _, _, hl, hxl, hel⟩ := DataW.trod_struct Tryd.underlying41 hf
  rw [cmsg] at hl
  have hxl' : xs.length = 10 := hxl
  obtain ⟨ds, hds⟩ : ∃ ds : List Value, (Value.cells (.agg cs)).toList = ds := ⟨_, rfl⟩
  rw [hds] at hl hel
  have e0 : DataW.trod enc Tryd.prog w base sp held m 3 ((ds.drop 0).take (Tryd.prog.cellsOf 3)) = xs[0]? := hel 0 _ rfl
  have e1 : DataW.trod enc Tryd.prog w base sp held m 3 ((ds.drop 1).take (Tryd.prog.cellsOf 3)) = xs[1]? := hel 1 _ rfl
  have e2 : DataW.trod enc Tryd.prog w base sp held m 3 ((ds.drop 2).take (Tryd.prog.cellsOf 3)) = xs[2]? := hel 2 _ rfl
  have e3 : DataW.trod enc Tryd.prog w base sp held m 25 ((ds.drop 3).take (Tryd.prog.cellsOf 25)) = xs[3]? := hel 3 _ rfl
  have e4 : DataW.trod enc Tryd.prog w base sp held m 35 ((ds.drop 4).take (Tryd.prog.cellsOf 35)) = xs[4]? := hel 4 _ rfl
  have e5 : DataW.trod enc Tryd.prog w base sp held m 36 ((ds.drop 6).take (Tryd.prog.cellsOf 36)) = xs[5]? := hel 5 _ rfl
  have e6 : DataW.trod enc Tryd.prog w base sp held m 25 ((ds.drop 7).take (Tryd.prog.cellsOf 25)) = xs[6]? := hel 6 _ rfl
  have e7 : DataW.trod enc Tryd.prog w base sp held m 4 ((ds.drop 8).take (Tryd.prog.cellsOf 4)) = xs[7]? := hel 7 _ rfl
  have e8 : DataW.trod enc Tryd.prog w base sp held m 39 ((ds.drop 9).take (Tryd.prog.cellsOf 39)) = xs[8]? := hel 8 _ rfl
  have e9 : DataW.trod enc Tryd.prog w base sp held m 27 ((ds.drop 10).take (Tryd.prog.cellsOf 27)) = xs[9]? := hel 9 _ rfl
  rw [cint] at e0 e1 e2
  rw [c1u64] at e3 e6
  rw [cat_] at e4
  rw [cents] at e5
  rw [cbool] at e7
  rw [cconf] at e8
  rw [c1rb] at e9
  rw [List.getElem?_eq_getElem (by omega)] at e0 e1 e2 e3 e4 e5 e6 e7 e8 e9
  obtain ⟨kd, h0⟩ := int_of_trod e0
  obtain ⟨fr, h1⟩ := int_of_trod e1
  obtain ⟨to, h2⟩ := int_of_trod e2
  obtain ⟨tm, h3⟩ := u64_of_trod e3
  obtain ⟨ev, es, h5, s5⟩ := ents_of_trod e5
  obtain ⟨cm, h6⟩ := u64_of_trod e6
  obtain ⟨ok, h7, _⟩ := DataW.trod_bool Tryd.underlying4 e7
  obtain ⟨dv, da, h9, s9⟩ := bytes_of_trod e9
  obtain ⟨a0, a1, a2, a3, a4, a5, a6, a7, a8, a9, a10, rfl⟩ : ∃ a0 a1 a2 a3 a4 a5 a6 a7 a8 a9 a10, ds = [a0, a1, a2, a3, a4, a5, a6, a7, a8, a9, a10] := by
    match ds, hl with
    | [a0, a1, a2, a3, a4, a5, a6, a7, a8, a9, a10], _ => exact ⟨a0, a1, a2, a3, a4, a5, a6, a7, a8, a9, a10, rfl⟩
  obtain ⟨ys, m4, _, _, hl4, hyl, hel4⟩ := DataW.trod_struct Tryd.underlying35 e4
  have hyl' : ys.length = 2 := hyl
  have q0 : DataW.trod enc Tryd.prog w base sp held m4 25 ((([a4, a5] : List Value).drop 0).take (Tryd.prog.cellsOf 25)) = ys[0]? := hel4 0 _ rfl
  have q1 : DataW.trod enc Tryd.prog w base sp held m4 25 ((([a4, a5] : List Value).drop 1).take (Tryd.prog.cellsOf 25)) = ys[1]? := hel4 1 _ rfl
  rw [c1u64] at q0 q1
  rw [List.getElem?_eq_getElem (by omega)] at q0 q1
  obtain ⟨pi, g0⟩ := u64_of_trod q0
  obtain ⟨pt, g1⟩ := u64_of_trod q1
  obtain ⟨zs, m8, _, _, hl8, hzl, hel8⟩ := DataW.trod_struct Tryd.underlying39 e8
  have hzl' : zs.length = 1 := hzl
  have q8 : DataW.trod enc Tryd.prog w base sp held m8 37 ((([a9] : List Value).drop 0).take (Tryd.prog.cellsOf 37)) = zs[0]? := hel8 0 _ rfl
  rw [cints] at q8
  rw [List.getElem?_eq_getElem (by omega)] at q8
  obtain ⟨mv, mb, h8, s8⟩ := ints_of_trod q8
  simp at h0 h1 h2 h3 h5 h6 h7 h8 h9 g0 g1
  subst h0 h1 h2 h3 h5 h6 h7 h8 h9 g0 g1
  have hcs : cs = #[I kd, I fr, I to, L tm, L pi, L pt, a6, L cm, .bool ok, a9, a10] := by simpa [Value.cells] using congrArg List.toArray hds
  exact ⟨⟨kd, fr, to, tm, pi, pt, es, cm, ok, mb, da⟩, _, _, _, by rw [hcs], s5, s8, s9⟩
end
end Go.Proofs.YtpcfkjeikhehaaaDoor
