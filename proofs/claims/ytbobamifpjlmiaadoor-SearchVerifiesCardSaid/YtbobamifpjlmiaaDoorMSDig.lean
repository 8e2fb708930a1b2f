import Derived.Test.YtbobamifpjlmiaaDoorMSameSp
import Derived.Test.YtbobamifpjlmiaaDoorMSumR

/- SearchDigests: what it does. -/
set_option linter.unusedSimpArgs false
set_option linter.unusedVariables false
set_option maxRecDepth 20000
namespace Go.Proofs.YtbobamifpjlmiaaDoor
open Go.RowKit
def C2 (a b : Dg) : Array Value := rowB 32 (dF a) ++ rowB 32 (dF b)
theorem C2_size (a b : Dg) : (C2 a b).size = 64 := by simp [C2]
theorem C2_0 (a b : Dg) : (C2 a b).extract 0 32 = rowB 32 (dF a) := by
  unfold C2; apply arr_ext; intro j
  rw [Array.getElem?_extract, rowB_get]
  by_cases h : j < 32
  · rw [if_pos (by simp; omega), Nat.zero_add, Array.getElem?_append_left (by simp; exact h), rowB_get]
  · rw [if_neg (by simp; omega), if_neg h]
theorem C2_1 (a b : Dg) : (C2 a b).extract 32 64 = rowB 32 (dF b) := by
  unfold C2; apply arr_ext; intro j
  rw [Array.getElem?_extract, rowB_get]
  by_cases h : j < 32
  · rw [if_pos (by simp; omega), Array.getElem?_append_right (by simp), rowB_get, if_pos (by simp; omega), if_pos h]
    simp
  · rw [if_neg (by simp; omega), if_neg h]
set_option maxHeartbeats 4000000 in
theorem sdigests_any (p : Pr) (a b : Dg) (n : Int) (w : World) (G : Glob w) : Calls Tryd.prog 11 #[.agg (PC p), .agg (C2 a b), I n] w (Post w (.bool true)) := by
  have HW : Hid (∀ w', Ex w w' → Calls Tryd.prog 34 #[] w' (Post w' (.bool true))) := Lib.hid fun w' k => wakesP_any w' (G.ex k)
  obtain ⟨s, t⟩ := p
  have x0 := C2_0 a b
  have x1 := C2_1 a b
  have xs := C2_size a b
  unfold PC
  simp only
  by_cases c1 : 70000 < s.size
  · have d1 := decide_eq_true (show (70000 : Int) < s.size by omega)
    go_enter Tryd.func11, Tryd.ntmps11
    go_wp2_with (go_at_call 34; (with_reducible refine (HW.out _ (by (try show Ex _ _); repeat (first | (with_reducible exact ex_refl _) | (with_reducible assumption) | (with_reducible refine ex_drewL ?_) | (with_reducible refine ex_appR ?_ _) | (with_reducible refine ex_wx ?_ _) | (with_reducible refine ex_drew ?_) | (with_reducible refine ex_alloc ?_ _)))).mono ?_); rintro e w2 ⟨rfl, X, rfl⟩)
    go_ret
    exact post_mk rfl (by (try show Ex _ _); repeat (first | (with_reducible exact ex_refl _) | (with_reducible assumption) | (with_reducible refine ex_drewL ?_) | (with_reducible refine ex_appR ?_ _) | (with_reducible refine ex_wx ?_ _) | (with_reducible refine ex_drew ?_) | (with_reducible refine ex_alloc ?_ _)))
  · have d1 := decide_eq_false (show ¬ (70000 : Int) < s.size by omega)
    by_cases c2 : 70000 < t.size
    · have d2 := decide_eq_true (show (70000 : Int) < t.size by omega)
      go_enter Tryd.func11, Tryd.ntmps11
      go_wp2_with (go_at_call 34; (with_reducible refine (HW.out _ (by (try show Ex _ _); repeat (first | (with_reducible exact ex_refl _) | (with_reducible assumption) | (with_reducible refine ex_drewL ?_) | (with_reducible refine ex_appR ?_ _) | (with_reducible refine ex_wx ?_ _) | (with_reducible refine ex_drew ?_) | (with_reducible refine ex_alloc ?_ _)))).mono ?_); rintro e w2 ⟨rfl, X, rfl⟩)
      go_ret
      exact post_mk rfl (by (try show Ex _ _); repeat (first | (with_reducible exact ex_refl _) | (with_reducible assumption) | (with_reducible refine ex_drewL ?_) | (with_reducible refine ex_appR ?_ _) | (with_reducible refine ex_wx ?_ _) | (with_reducible refine ex_drew ?_) | (with_reducible refine ex_alloc ?_ _)))
    · have d2 := decide_eq_false (show ¬ (70000 : Int) < t.size by omega)
      have HL : Hid (∀ w', Ex w w' → Calls Tryd.prog 52 #[.agg #[.string s, .string t]] w' (Post w' (.agg (rowB 32 (dF (leafP (s, t))))))) := Lib.hid fun w' k => sleaf_any G (s, t) w' k
      have HRL : Hid (∀ w', Calls Tryd.prog 54 #[.agg #[.string s, .string t]] w' (PostL w' (leafL (s, t)))) := Lib.hid fun w' => refsleaf_any (s, t) w' (by simp only; omega) (by simp only; omega)
      have HJ : Hid (∀ w', Ex w w' → Calls Tryd.prog 55 #[.agg (rowB 32 (dF a)), .agg (rowB 32 (dF b))] w' (Post w' (.agg (rowB 32 (dF (nodeD a b)))))) := Lib.hid fun w' k => sjoin_any G a b w' k
      have HRJ := Lib.hid (fun w' => refjoin_any a b w')
      have HC : Hid (∀ w', Ex w w' → Calls Tryd.prog 57 #[I n, .agg (rowB 32 (dF a))] w' (Post w' (.agg (rowB 32 (dF (crownD n a)))))) := Lib.hid fun w' k => scrown_any G n a w' k
      have HRC := Lib.hid (fun w' => refcrown_any n a w')
      have S1 : Hid (sumD (leafL (s, t)) = leafP (s, t) ∧ (leafL (s, t)).length ≤ 1000000) := Lib.hid ⟨rfl, leafL_len _⟩
      have S2 : Hid (sumD (1 :: (bytesD a ++ bytesD b)) = nodeD a b ∧ (1 :: (bytesD a ++ bytesD b)).length ≤ 1000000) := Lib.hid ⟨rfl, by simp [bytesD_len]⟩
      have S3 : Hid (sumD ([2] ++ hiL (n % 4294967296).toNat 4 ++ bytesD a) = crownD n a ∧ ([2] ++ hiL (n % 4294967296).toNat 4 ++ bytesD a).length ≤ 1000000) := Lib.hid ⟨rfl, by simp [bytesD_len, hiL_len]⟩
      generalize leafL (s, t) = l1 at *
      generalize 1 :: (bytesD a ++ bytesD b) = l2 at *
      generalize [2] ++ hiL (n % 4294967296).toNat 4 ++ bytesD a = l3 at *
      generalize leafP (s, t) = z1 at *
      generalize nodeD a b = z2 at *
      generalize crownD n a = z3 at *
      have q1 := eqF_same (dF z1) 32
      have q2 := eqF_same (dF z2) 32
      have q3 := eqF_same (dF z3) 32
      generalize C2 a b = cc at *
      go_enter Tryd.func11, Tryd.ntmps11
      go_wp2_with (go_at_call 34; (with_reducible refine (HW.out _ (by (try show Ex _ _); repeat (first | (with_reducible exact ex_refl _) | (with_reducible assumption) | (with_reducible refine ex_drewL ?_) | (with_reducible refine ex_appR ?_ _) | (with_reducible refine ex_wx ?_ _) | (with_reducible refine ex_drew ?_) | (with_reducible refine ex_alloc ?_ _)))).mono ?_); rintro e w2 ⟨rfl, X, rfl⟩)
      refine wp_region_seq [(0, true), (2, true), (1, false), (3, false), (4, false), (5, true), (6, true), (7, true), (8, true), (9, true), (10, true), (12, true), (13, true), (14, true), (15, true), (11, false), (16, false), (17, false), (18, true), (19, true), (20, true), (21, true), (22, true), (23, true), (25, true), (26, true), (27, true), (24, false), (28, false), (29, false), (30, true), (31, true), (32, true)] (by kernel_rfl) (by kernel_rfl) (fun _ _ d _ _ h => by cases d <;> exact h) ?_
      simp only [List.map_cons, List.map_nil, nth]
      repeat (first | ((with_reducible refine wpSeq_look ?_); go_big_quiet_step (fail); (with_reducible refine wpQuiet_nil ?_)) | ((with_reducible refine wpSeq_effF ?_ ?_); (focus rfl); go_simp) | ((with_reducible refine wpSeq_eff ?_ ?_); (focus rfl); (try dsimp only); go_wp2_with (first | (go_at_call 52; (with_reducible refine (HL.out _ (by (try show Ex _ _); repeat (first | (with_reducible exact ex_refl _) | (with_reducible assumption) | (with_reducible refine ex_drewL ?_) | (with_reducible refine ex_appR ?_ _) | (with_reducible refine ex_wx ?_ _) | (with_reducible refine ex_drew ?_) | (with_reducible refine ex_alloc ?_ _)))).mono ?_); rintro e w2 ⟨rfl, X, rfl⟩) | (go_at_call 55; (with_reducible refine (HJ.out _ (by (try show Ex _ _); repeat (first | (with_reducible exact ex_refl _) | (with_reducible assumption) | (with_reducible refine ex_drewL ?_) | (with_reducible refine ex_appR ?_ _) | (with_reducible refine ex_wx ?_ _) | (with_reducible refine ex_drew ?_) | (with_reducible refine ex_alloc ?_ _)))).mono ?_); rintro e w2 ⟨rfl, X, rfl⟩) | (go_at_call 57; (with_reducible refine (HC.out _ (by (try show Ex _ _); repeat (first | (with_reducible exact ex_refl _) | (with_reducible assumption) | (with_reducible refine ex_drewL ?_) | (with_reducible refine ex_appR ?_ _) | (with_reducible refine ex_wx ?_ _) | (with_reducible refine ex_drew ?_) | (with_reducible refine ex_alloc ?_ _)))).mono ?_); rintro e w2 ⟨rfl, X, rfl⟩) | (go_at_call 54; (with_reducible refine (HRL.out _).mono ?_); rintro e w2 ⟨v1, rfl, hs1, X, rfl⟩; (try simp only [wx_wx, wx_drew] at hs1)) | (go_at_call 56; (with_reducible refine (HRJ.out _).mono ?_); rintro e w2 ⟨v2, rfl, hs2, X, rfl⟩; (try simp only [wx_wx, wx_drew] at hs2)) | (go_at_call 58; (with_reducible refine (HRC.out _).mono ?_); rintro e w2 ⟨v3, rfl, hs3, X, rfl⟩; (try simp only [wx_wx, wx_drew] at hs3)) | (go_at_call 53; have _t := hs1; refine (refsum_slt (hs1.ex (by (try show Ex _ _); repeat (first | (with_reducible exact ex_refl _) | (with_reducible assumption) | (with_reducible refine ex_drewL ?_) | (with_reducible refine ex_appR ?_ _) | (with_reducible refine ex_wx ?_ _) | (with_reducible refine ex_drew ?_) | (with_reducible refine ex_alloc ?_ _)))).slt (by have := S1.out.2; omega)).mono ?_; rintro e w2 ⟨rfl, X, rfl⟩; (try rw [S1.out.1]); clear hs1) | (go_at_call 53; have _t := hs2; refine (refsum_slt (hs2.ex (by (try show Ex _ _); repeat (first | (with_reducible exact ex_refl _) | (with_reducible assumption) | (with_reducible refine ex_drewL ?_) | (with_reducible refine ex_appR ?_ _) | (with_reducible refine ex_wx ?_ _) | (with_reducible refine ex_drew ?_) | (with_reducible refine ex_alloc ?_ _)))).slt (by have := S2.out.2; omega)).mono ?_; rintro e w2 ⟨rfl, X, rfl⟩; (try rw [S2.out.1]); clear hs2) | (go_at_call 53; have _t := hs3; refine (refsum_slt (hs3.ex (by (try show Ex _ _); repeat (first | (with_reducible exact ex_refl _) | (with_reducible assumption) | (with_reducible refine ex_drewL ?_) | (with_reducible refine ex_appR ?_ _) | (with_reducible refine ex_wx ?_ _) | (with_reducible refine ex_drew ?_) | (with_reducible refine ex_alloc ?_ _)))).slt (by have := S3.out.2; omega)).mono ?_; rintro e w2 ⟨rfl, X, rfl⟩; (try rw [S3.out.1]); clear hs3)); refine mixQ_mk (by (try show Ex _ _); repeat (first | (with_reducible exact ex_refl _) | (with_reducible assumption) | (with_reducible refine ex_drewL ?_) | (with_reducible refine ex_appR ?_ _) | (with_reducible refine ex_wx ?_ _) | (with_reducible refine ex_drew ?_) | (with_reducible refine ex_alloc ?_ _))) ?_))
      refine wpSeq_nil ?_
      go_wp2
      go_ret
      exact post_mk rfl (by (try show Ex _ _); repeat (first | (with_reducible exact ex_refl _) | (with_reducible assumption) | (with_reducible refine ex_drewL ?_) | (with_reducible refine ex_appR ?_ _) | (with_reducible refine ex_wx ?_ _) | (with_reducible refine ex_drew ?_) | (with_reducible refine ex_alloc ?_ _)))
end Go.Proofs.YtbobamifpjlmiaaDoor

/- How the data of a row of the search are opened. -/
set_option linter.unusedSimpArgs false
set_option linter.unusedVariables false
set_option maxRecDepth 20000
namespace Go.Proofs.YtbobamifpjlmiaaDoor
open Go.RowKit Go.ChangeShapes Go.WideShapes Go.ChangeAt
theorem ccell : Tryd.prog.cellsOf 80 = 2 := by kernel_rfl
theorem crange : Tryd.prog.cellsOf 55 = 3 := by kernel_rfl
theorem cspan : Tryd.prog.cellsOf 65 = 4 := by kernel_rfl
theorem ctwo : Tryd.prog.cellsOf 81 = 64 := by kernel_rfl
theorem c1str : Tryd.prog.cellsOf 9 = 1 := by kernel_rfl
theorem c1bool : Tryd.prog.cellsOf 4 = 1 := by kernel_rfl
theorem c1int : Tryd.prog.cellsOf 3 = 1 := by kernel_rfl
theorem c1cells : Tryd.prog.cellsOf 53 = 1 := by kernel_rfl
theorem c1ids : Tryd.prog.cellsOf 22 = 1 := by kernel_rfl
def prs (n : Nat) (E : Nat → Pr) : List Pr := (List.range n).map E
theorem prs_len (n : Nat) (E : Nat → Pr) : (prs n E).length = n := by simp [prs]
theorem slp_of_sln {w : World} {a : Option Addr} {n : Nat} {E : Nat → Pr} (h : SlN w a n 2 fun i => PC (E i)) : SlP w a (prs n E) := by
  rcases h.out with rfl | ⟨g, off, h1, h2, h3⟩
  · exact ⟨Or.inl rfl⟩
  · refine ⟨Or.inr ⟨g, off, h1, h2, fun i d hd => ?_⟩⟩
    have hi : i < n := by
      have := (List.getElem?_eq_some_iff.1 hd).1
      rwa [prs_len] at this
    unfold prs at hd
    rw [List.getElem?_map, List.getElem?_range hi] at hd
    obtain rfl : E i = d := by simpa using hd
    exact h3 i hi
section
variable {H : Type} {enc : TypeId × Value → H} {w : World} {base : Nat} {sp : Nat → Bool} {held : Bool}
theorem pr_of_trod {fuel : Nat} {cs : List Value} {x : DataW H × List MemPlace} (h : DataW.trod enc Tryd.prog w base sp held fuel 80 cs = some x) : ∃ p : Pr, cs = (PC p).toList := by
  obtain ⟨xs, m, _, _, hl, hxl, hel⟩ := DataW.trod_struct Tryd.underlying80 h
  rw [ccell] at hl
  have hxl' : xs.length = 2 := hxl
  have e0 : DataW.trod enc Tryd.prog w base sp held m 9 ((cs.drop 0).take (Tryd.prog.cellsOf 9)) = xs[0]? := hel 0 _ rfl
  have e1 : DataW.trod enc Tryd.prog w base sp held m 9 ((cs.drop 1).take (Tryd.prog.cellsOf 9)) = xs[1]? := hel 1 _ rfl
  rw [c1str] at e0 e1
  rw [List.getElem?_eq_getElem (by omega)] at e0 e1
  obtain ⟨s, hs, _, _⟩ := DataW.trod_string Tryd.underlying9 e0
  obtain ⟨t, ht, _, _⟩ := DataW.trod_string Tryd.underlying9 e1
  obtain ⟨a, b, rfl⟩ : ∃ a b, cs = [a, b] := by
    match cs, hl with
    | [a, b], _ => exact ⟨a, b, rfl⟩
  simp at hs ht
  subst hs ht
  exact ⟨(s, t), rfl⟩
theorem rg_of_trod {fuel : Nat} {cs : List Value} {x : DataW H × List MemPlace} (h : DataW.trod enc Tryd.prog w base sp held fuel 55 cs = some x) : ∃ r : Rg, cs = [.string r.lo, .string r.hi, .bool r.op] := by
  obtain ⟨xs, m, _, _, hl, hxl, hel⟩ := DataW.trod_struct Tryd.underlying55 h
  rw [crange] at hl
  have hxl' : xs.length = 3 := hxl
  have e0 : DataW.trod enc Tryd.prog w base sp held m 9 ((cs.drop 0).take (Tryd.prog.cellsOf 9)) = xs[0]? := hel 0 _ rfl
  have e1 : DataW.trod enc Tryd.prog w base sp held m 9 ((cs.drop 1).take (Tryd.prog.cellsOf 9)) = xs[1]? := hel 1 _ rfl
  have e2 : DataW.trod enc Tryd.prog w base sp held m 4 ((cs.drop 2).take (Tryd.prog.cellsOf 4)) = xs[2]? := hel 2 _ rfl
  rw [c1str] at e0 e1
  rw [c1bool] at e2
  rw [List.getElem?_eq_getElem (by omega)] at e0 e1 e2
  obtain ⟨s, hs, _, _⟩ := DataW.trod_string Tryd.underlying9 e0
  obtain ⟨t, ht, _, _⟩ := DataW.trod_string Tryd.underlying9 e1
  obtain ⟨b, hb, _⟩ := DataW.trod_bool Tryd.underlying4 e2
  obtain ⟨a1, a2, a3, rfl⟩ : ∃ a b c, cs = [a, b, c] := by
    match cs, hl with
    | [a, b, c], _ => exact ⟨a, b, c, rfl⟩
  simp at hs ht hb
  subst hs ht hb
  exact ⟨⟨s, t, b⟩, rfl⟩
theorem two_of_trod {fuel : Nat} {cs : List Value} {x : DataW H × List MemPlace} (h : DataW.trod enc Tryd.prog w base sp held fuel 81 cs = some x) : ∃ a b : Dg, cs = (C2 a b).toList := by
  obtain ⟨xs, m, _, _, hl, hxl, hel⟩ := DataW.trod_array Tryd.underlying81 h
  rw [ctwo] at hl
  have e0 := hel 0 (by decide)
  have e1 := hel 1 (by decide)
  rw [cid] at e0 e1
  rw [List.getElem?_eq_getElem (by omega)] at e0 e1
  obtain ⟨f, hf⟩ := arrB_of_trod Tryd.underlying26 Tryd.underlying5 cb cid e0
  obtain ⟨g, hg⟩ := arrB_of_trod Tryd.underlying26 Tryd.underlying5 cb cid e1
  refine ⟨ofF f, ofF g, ?_⟩
  unfold C2
  rw [row_ofF, row_ofF, Array.toList_append, ← hf, ← hg]
  rw [Nat.zero_mul, List.drop_zero, Nat.one_mul, List.take_of_length_le (l := cs.drop 32) (by simp; omega), List.take_append_drop]
theorem argCell {b0 : Nat} {r : Reach} {v : Value} {d : DataW H} {p : List MemPlace} (h : Value.okWide Tryd.prog w r b0 80 v) (hd : DataW.Trod enc Tryd.prog w base sp held 80 v d p) : ∃ q : Pr, v = .agg (PC q) := by
  obtain ⟨cs, rfl, _⟩ := okWide_struct Tryd.underlying80 h
  obtain ⟨fuel, hf⟩ := hd
  obtain ⟨q, hq⟩ := pr_of_trod hf
  exact ⟨q, by rw [show cs = PC q from by simpa [Value.cells] using congrArg List.toArray hq]⟩
theorem argRg {b0 : Nat} {r : Reach} {v : Value} {d : DataW H} {p : List MemPlace} (h : Value.okWide Tryd.prog w r b0 55 v) (hd : DataW.Trod enc Tryd.prog w base sp held 55 v d p) : ∃ q : Rg, v = .agg #[.string q.lo, .string q.hi, .bool q.op] := by
  obtain ⟨cs, rfl, _⟩ := okWide_struct Tryd.underlying55 h
  obtain ⟨fuel, hf⟩ := hd
  obtain ⟨q, hq⟩ := rg_of_trod hf
  exact ⟨q, by rw [show cs = #[.string q.lo, .string q.hi, .bool q.op] from by simpa [Value.cells] using congrArg List.toArray hq]⟩
theorem argTwo {b0 : Nat} {r : Reach} {v : Value} {d : DataW H} {p : List MemPlace} (h : Value.okWide Tryd.prog w r b0 81 v) (hd : DataW.Trod enc Tryd.prog w base sp held 81 v d p) : ∃ a b : Dg, v = .agg (C2 a b) := by
  obtain ⟨cs, rfl⟩ := agg_of_ok Tryd.underlying81 h
  obtain ⟨fuel, hf⟩ := hd
  obtain ⟨a, b, hq⟩ := two_of_trod hf
  exact ⟨a, b, by rw [show cs = C2 a b from by simpa [Value.cells] using congrArg List.toArray hq]⟩
theorem cells_of_trod {fuel : Nat} {cs : List Value} {x : DataW H × List MemPlace} (h : DataW.trod enc Tryd.prog w base sp held fuel 53 cs = some x) :
    ∃ (a : Option Addr) (l : List Pr) (cap : Nat), cs = [.slice a l.length cap] ∧ l.length ≤ cap ∧ cap ≤ maxLen ∧ (a = none → cap = 0) ∧ SlP w a l := by
  obtain ⟨a, n, c, E, h1, h2, h3, h4, h5⟩ := elems_open PC PC_size Tryd.underlying53 ccell (by decide) (fun _ _ _ h => pr_of_trod h) h
  exact ⟨a, prs n E, c, by rw [prs_len]; exact h1, by rw [prs_len]; exact h2, h3, h4, slp_of_sln h5⟩
theorem ids_of_trod {fuel : Nat} {cs : List Value} {x : DataW H × List MemPlace} (h : DataW.trod enc Tryd.prog w base sp held fuel 22 cs = some x) :
    ∃ (a : Option Addr) (l : List Dg) (cap : Nat), cs = [.slice a l.length cap] ∧ l.length ≤ cap ∧ cap ≤ maxLen ∧ (a = none → cap = 0) ∧ SlD w a l := by
  obtain ⟨a, n, c, E, h1, h2, h3, h4, h5⟩ := elems_open (rowB 32) (fun f => rowB_size 32 f) Tryd.underlying22 cid (by decide) (fun _ _ _ h => arrB_of_trod Tryd.underlying26 Tryd.underlying5 cb cid h) h
  exact ⟨a, dgs n E, c, by rw [dgs_len]; exact h1, by rw [dgs_len]; exact h2, h3, h4, sld_of_sln h5⟩
theorem argCells {b0 : Nat} {r : Reach} {v : Value} {d : DataW H} {p : List MemPlace} (h : Value.okWide Tryd.prog w r b0 53 v) (hd : DataW.Trod enc Tryd.prog w base sp held 53 v d p) :
    ∃ (a : Option Addr) (l : List Pr) (cap : Nat), v = .slice a l.length cap ∧ l.length ≤ cap ∧ cap ≤ maxLen ∧ (a = none → cap = 0) ∧ SlP w a l := by
  obtain ⟨fuel, x, hx⟩ := arg_slice Tryd.underlying53 h hd
  obtain ⟨a, l, c, h1, h2⟩ := cells_of_trod hx
  exact ⟨a, l, c, by simpa using h1, h2⟩
theorem argStr {b0 : Nat} {r : Reach} {v : Value} {d : DataW H} {p : List MemPlace} (h : Value.okWide Tryd.prog w r b0 9 v) (hd : DataW.Trod enc Tryd.prog w base sp held 9 v d p) : ∃ s : ByteArray, v = .string s ∧ s.size ≤ maxLen := by
  obtain ⟨s, rfl⟩ := okWide_string Tryd.underlying9 h
  obtain ⟨fuel, hf⟩ := hd
  obtain ⟨s', h1, _, h2⟩ := DataW.trod_string Tryd.underlying9 hf
  simp [Value.cells] at h1
  subst h1
  exact ⟨_, rfl, h2⟩
theorem argSpan {b0 : Nat} {r : Reach} {v : Value} {d : DataW H} {p : List MemPlace} (h : Value.okWide Tryd.prog w r b0 65 v) (hd : DataW.Trod enc Tryd.prog w base sp held 65 v d p) :
    ∃ (t f : Int) (pa : Option Addr) (ps : List Pr) (pc : Nat) (qa : Option Addr) (qs : List Dg) (qc : Nat), v = .agg #[I t, I f, .slice pa ps.length pc, .slice qa qs.length qc] ∧
      (Lit.int .i64 t).wf = true ∧ (Lit.int .i64 f).wf = true ∧ ps.length ≤ pc ∧ pc ≤ maxLen ∧ (pa = none → pc = 0) ∧ SlP w pa ps ∧ qs.length ≤ qc ∧ qc ≤ maxLen ∧ (qa = none → qc = 0) ∧ SlD w qa qs := by
  obtain ⟨cs, rfl, _⟩ := okWide_struct Tryd.underlying65 h
  obtain ⟨fuel, hf⟩ := hd
  obtain ⟨xs, m, _, _, hl, hxl, hel⟩ := DataW.trod_struct Tryd.underlying65 hf
  rw [cspan] at hl
  have hxl' : xs.length = 4 := hxl
  obtain ⟨ds, hds⟩ : ∃ ds : List Value, (Value.cells (.agg cs)).toList = ds := ⟨_, rfl⟩
  rw [hds] at hl hel
  have e0 : DataW.trod enc Tryd.prog w base sp held m 3 ((ds.drop 0).take (Tryd.prog.cellsOf 3)) = xs[0]? := hel 0 _ rfl
  have e1 : DataW.trod enc Tryd.prog w base sp held m 3 ((ds.drop 1).take (Tryd.prog.cellsOf 3)) = xs[1]? := hel 1 _ rfl
  have e2 : DataW.trod enc Tryd.prog w base sp held m 53 ((ds.drop 2).take (Tryd.prog.cellsOf 53)) = xs[2]? := hel 2 _ rfl
  have e3 : DataW.trod enc Tryd.prog w base sp held m 22 ((ds.drop 3).take (Tryd.prog.cellsOf 22)) = xs[3]? := hel 3 _ rfl
  rw [c1int] at e0 e1
  rw [c1cells] at e2
  rw [c1ids] at e3
  rw [List.getElem?_eq_getElem (by omega)] at e0 e1 e2 e3
  obtain ⟨t, ht, _, wt⟩ := DataW.trod_int Tryd.underlying3 e0
  obtain ⟨f, hf, _, wf⟩ := DataW.trod_int Tryd.underlying3 e1
  obtain ⟨pa, ps, pc, hp, p1, p2, p3, p4⟩ := cells_of_trod e2
  obtain ⟨qa, qs, qc, hq, q1, q2, q3, q4⟩ := ids_of_trod e3
  obtain ⟨a1, a2, a3, a4, rfl⟩ : ∃ a b c d, ds = [a, b, c, d] := by
    match ds, hl with
    | [a, b, c, d], _ => exact ⟨a, b, c, d, rfl⟩
  simp at ht hf hp hq
  subst ht hf hp hq
  have hcs : cs = #[I t, I f, .slice pa ps.length pc, .slice qa qs.length qc] := by simpa [Value.cells] using congrArg List.toArray hds
  exact ⟨t, f, pa, ps, pc, qa, qs, qc, by rw [hcs], wt, wf, p1, p2, p3, p4, q1, q2, q3, q4⟩
end
end Go.Proofs.YtbobamifpjlmiaaDoor
