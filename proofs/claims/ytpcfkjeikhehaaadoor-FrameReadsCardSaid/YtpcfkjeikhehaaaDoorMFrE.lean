import Derived.Test.YtpcfkjeikhehaaaDoorMFrO

/- Entries: slices of them, what may be. -/
set_option linter.unusedSimpArgs false
set_option linter.unusedVariables false
set_option maxRecDepth 20000
namespace Go.Proofs.YtpcfkjeikhehaaaDoor
open Go.RowKit
/-- A slice that reads as a list of entries. -/
structure SlN3 (w : World) (a : Option Addr) (l : List En) : Prop where
  out : l = [] ∨ ∃ g off, ∃ V : Nat → Value, a = some ⟨g, off, none⟩ ∧ g < w.heap.size ∧ ∀ i e, l[i]? = some e → w.cell? ⟨g, off + i * 3, none⟩ = some (L e.1) ∧ w.cell? ⟨g, off + i * 3 + 1, none⟩ = some (I e.2.1) ∧ w.cell? ⟨g, off + i * 3 + 2, none⟩ = some (V i) ∧ SlT w (V i) e.2.2
theorem SlN3.ex {w w' : World} {a : Option Addr} {l : List En} (h : SlN3 w a l) (k : Ex w w') : SlN3 w' a l := by
  obtain ⟨X, rfl⟩ := k
  rcases h.out with h | ⟨g, off, V, h1, h2, h3⟩
  · exact ⟨Or.inl h⟩
  · exact ⟨Or.inr ⟨g, off, V, h1, by rw [wx_size]; omega, fun i e he => by rw [wx_cell w X _ h2, wx_cell w X _ h2, wx_cell w X _ h2]; exact ⟨(h3 i e he).1, (h3 i e he).2.1, (h3 i e he).2.2.1, (h3 i e he).2.2.2.ex ⟨X, rfl⟩⟩⟩⟩
structure SlG (w : World) (v : Value) (l : List En) : Prop where
  out : ∃ a c, v = .slice a l.length c ∧ l.length ≤ c ∧ c ≤ maxLen ∧ (a = none → c = 0) ∧ SlN3 w a l
theorem SlG.ex {w w' : World} {v : Value} {l : List En} (h : SlG w v l) (k : Ex w w') : SlG w' v l := by
  obtain ⟨a, c, h1, h2, h3, h4, h5⟩ := h.out
  exact ⟨a, c, h1, h2, h3, h4, h5.ex k⟩
def enAt (l : List En) (i : Nat) : En := l.getD i (0, 0, [])
theorem enAt_get {l : List En} {i : Nat} (h : i < l.length) : l[i]? = some (enAt l i) := by
  unfold enAt; rw [List.getD_eq_getElem?_getD, List.getElem?_eq_getElem h]; rfl
theorem SlN3.row {w : World} {a : Option Addr} {l : List En} (h : SlN3 w a l) {i : Nat} (hi : i < l.length) : ∃ g off da dc, a = some ⟨g, off, none⟩ ∧ g < w.heap.size ∧ w.cell? ⟨g, off + i * 3, none⟩ = some (L (enAt l i).1) ∧ w.cell? ⟨g, off + i * 3 + 1, none⟩ = some (I (enAt l i).2.1) ∧
    w.cell? ⟨g, off + i * 3 + 2, none⟩ = some (.slice da (enAt l i).2.2.length dc) ∧ SlT w (.slice da (enAt l i).2.2.length dc) (enAt l i).2.2 := by
  rcases h.out with rfl | ⟨g, off, V, h1, h2, h3⟩
  · simp at hi
  · obtain ⟨c0, c1, c2, c3⟩ := h3 i _ (enAt_get hi)
    obtain ⟨da, dc, hv, _⟩ := id c3.out
    rw [hv] at c2 c3
    exact ⟨g, off, da, dc, h1, h2, c0, c1, c2, c3⟩
theorem drop_en {l : List En} {k : Nat} (h : k < l.length) : l.drop k = enAt l k :: l.drop (k + 1) := by
  rw [List.drop_eq_getElem_cons h]
  congr 1
  have := enAt_get h
  rw [List.getElem?_eq_getElem h] at this
  exact Option.some.inj this
def wellN (t : UInt64) (k : Int) (n : Nat) : Bool := (k == 2 || k == 3 || (k == 1 && n == 0)) && decide (t ≠ 0) && decide (n ≤ 1024)
theorem wellE_eq (e : En) : wellE e = wellN e.1 e.2.1 e.2.2.length := rfl
theorem ln_pos (x : UInt64) : (0 < ln x) = (x ≠ 0) := by
  have h2 := ln_lt x
  apply propext
  constructor
  · intro h e; rw [e] at h; exact absurd h (by decide)
  · intro h
    have : ln x ≠ 0 := fun e => h (ln_inj (y := 0) (by rw [e]; rfl))
    omega
theorem ln_npos (x : UInt64) : (ln x ≤ 0) = (x = 0) := by
  have h2 := ln_lt x
  rw [← ln_eq0]
  apply propext
  omega
theorem int_beq0 (n : Nat) : ((n : Int) == 0) = (n == 0) := by rw [Bool.eq_iff_iff, beq_iff_eq, beq_iff_eq]; omega
theorem int_le1024 (n : Nat) : ((n : Int) ≤ 1024) = (n ≤ 1024) := propext (by omega)
theorem int_lt1024 (n : Nat) : (1024 < (n : Int)) = (1024 < n) := propext (by omega)
set_option maxHeartbeats 1000000 in
theorem well_any (t : UInt64) (k : Int) (a : Option Addr) (n c : Nat) (w : World) :
    Calls Tryd.prog 94 #[.agg #[L t, I k, .slice a n c]] w (Post w (.bool (wellN t k n))) := by
  go_enter Tryd.func94, Tryd.ntmps94
  go_wp2
  all_goals (go_ret; refine post_mk (congrArg (fun b => Ending.returned (.bool b)) ?_) (by (try show Ex _ _); repeat (first | (with_reducible exact ex_refl _) | (with_reducible assumption) | (with_reducible refine ex_drewL ?_) | (with_reducible refine ex_appR ?_ _) | (with_reducible refine ex_wx ?_ _) | (with_reducible refine ex_drew ?_) | (with_reducible refine ex_alloc ?_ _))); simp_all [wellN, ln_pos, ln_npos, ln_zero, ln_eq0, int_beq0, int_le1024, int_lt1024] <;> omega)
set_option maxHeartbeats 1000000 in
theorem rightEntry_any (t : UInt64) (k : Int) (a : Option Addr) (n c : Nat) (w : World) :
    Calls Tryd.prog 40 #[.agg #[L t, I k, .slice a n c]] w (Post w (.bool (wellN t k n))) := by
  go_enter Tryd.func40, Tryd.ntmps40
  go_wp2
  all_goals (go_ret; refine post_mk (congrArg (fun b => Ending.returned (.bool b)) ?_) (by (try show Ex _ _); repeat (first | (with_reducible exact ex_refl _) | (with_reducible assumption) | (with_reducible refine ex_drewL ?_) | (with_reducible refine ex_appR ?_ _) | (with_reducible refine ex_wx ?_ _) | (with_reducible refine ex_drew ?_) | (with_reducible refine ex_alloc ?_ _))); simp_all [wellN, ln_pos, ln_npos, ln_zero, ln_eq0, int_beq0, int_le1024, int_lt1024] <;> omega)
theorem ln_le (x y : UInt64) : (ln x ≤ ln y) = (x.toNat ≤ y.toNat) := propext (by unfold ln; omega)
theorem ln_ltn (x y : UInt64) : (ln x < ln y) = (x.toNat < y.toNat) := propext (by unfold ln; omega)
theorem stand_cons (e : En) (l : List En) (t : UInt64) : standE (e :: l) t = (wellE e && decide (t.toNat ≤ e.1.toNat) && standE l e.1) := rfl
set_option maxHeartbeats 1000000 in
theorem stand_any (l : List En) (t : UInt64) (v : Value) (w : World) (hs : SlG w v l) :
    Calls Tryd.prog 82 #[v, L t] w (Post w (.bool (standE l t))) := by
  obtain ⟨a, cc, rfl, hc, hcm, _, hs⟩ := hs.out
  have HS : Hid (∀ W, Ex w W → ∀ i, i < l.length → ∃ g off da dc, a = some ⟨g, off, none⟩ ∧ g < W.heap.size ∧ W.cell? ⟨g, off + i * 3, none⟩ = some (L (enAt l i).1) ∧ W.cell? ⟨g, off + i * 3 + 1, none⟩ = some (I (enAt l i).2.1) ∧
    W.cell? ⟨g, off + i * 3 + 2, none⟩ = some (.slice da (enAt l i).2.2.length dc) ∧ SlT W (.slice da (enAt l i).2.2.length dc) (enAt l i).2.2) := Lib.hid fun W k i hi => (hs.ex k).row hi
  have HD : Hid (∀ k t, k < l.length → standE (l.drop k) t = (wellE (enAt l k) && decide (t.toNat ≤ (enAt l k).1.toNat) && standE (l.drop (k + 1)) (enAt l k).1)) := Lib.hid fun k t hk => by rw [drop_en hk, stand_cons]
  have HE : Hid (∀ t, standE (l.drop l.length) t = true) := Lib.hid fun t => by rw [List.drop_length]; rfl
  have H0 : Hid (standE l t = standE (l.drop 0) t) := Lib.hid rfl
  obtain ⟨go, hg⟩ : ∃ go : Nat → UInt64 → Bool, go = fun k t => standE (l.drop k) t := ⟨_, rfl⟩
  have HD2 : Hid (∀ k t, k < l.length → go k t = (wellE (enAt l k) && decide (t.toNat ≤ (enAt l k).1.toNat) && go (k + 1) (enAt l k).1)) := Lib.hid (by subst hg; exact HD.out)
  have HE2 : Hid (∀ t, go l.length t = true) := Lib.hid (by subst hg; exact HE.out)
  have H02 : Hid (standE l t = go 0 t) := Lib.hid (by subst hg; exact H0.out)
  clear HD HE H0 hg hs
  generalize standE l t = out at *
  generalize enAt l = p at *
  generalize l.length = n at *
  unfold maxLen at hcm
  go_enter Tryd.func82, Tryd.ntmps82
  go_wp2
  go_loopw [1, 9] (fun t i wr => ∃ (k : Nat) (x : UInt64), k ≤ n ∧ i = I k ∧ t = L x ∧ Hid (out = go k x) ∧ Ex w wr) (fun _ i _ => n - (intOf i).toNat)
  case atStart => exact ⟨0, _, by omega, rfl, rfl, H02, (by (try show Ex _ _); repeat (first | (with_reducible exact ex_refl _) | (with_reducible assumption) | (with_reducible refine ex_drewL ?_) | (with_reducible refine ex_appR ?_ _) | (with_reducible refine ex_wx ?_ _) | (with_reducible refine ex_drew ?_) | (with_reducible refine ex_alloc ?_ _)))⟩
  case round =>
    obtain ⟨k, x, hk, rfl, rfl, HO, kr⟩ := hrel
    by_cases hlt : k < n
    · obtain ⟨g, off, da, dc, rfl, r1, c0, c1, c2, _⟩ := HS.out wr kr k hlt
      have HG : Hid (out = _) := Lib.hid (HO.out.trans (HD2.out k x hlt))
      clear HS HD2 HE2 H02 HO
      generalize p k = e at *
      obtain ⟨et, ek, ed⟩ := e
      simp only at c0 c1 c2
      generalize hdn : ed.length = dn at c2
      rw [wellE_eq] at HG
      simp only [hdn] at HG
      by_cases hw : wellN et ek dn = true
      · rw [hw, Bool.true_and] at HG
        by_cases hx : x.toNat ≤ et.toNat
        · rw [decide_eq_true hx, Bool.true_and] at HG
          have e1 : ¬ ln et < ln x := by rw [ln_ltn]; omega
          go_wp2_with (go_at_call 94; (with_reducible refine (well_any et ek da dn dc _).mono ?_); rw [hw]; rintro e w2 ⟨rfl, X, rfl⟩)
          refine ⟨⟨k + 1, et, by omega, by go_num, rfl, HG, (by (try show Ex _ _); repeat (first | (with_reducible exact ex_refl _) | (with_reducible assumption) | (with_reducible refine ex_drewL ?_) | (with_reducible refine ex_appR ?_ _) | (with_reducible refine ex_wx ?_ _) | (with_reducible refine ex_drew ?_) | (with_reducible refine ex_alloc ?_ _)))⟩, by simp [intOf]; omega⟩
        · rw [decide_eq_false hx, Bool.false_and] at HG
          have e1 : ln et < ln x := by rw [ln_ltn]; omega
          obtain rfl := HG.out
          clear HG
          go_wp2_with (go_at_call 94; (with_reducible refine (well_any et ek da dn dc _).mono ?_); rw [hw]; rintro e w2 ⟨rfl, X, rfl⟩)
          go_ret
          exact post_mk rfl (by (try show Ex _ _); repeat (first | (with_reducible exact ex_refl _) | (with_reducible assumption) | (with_reducible refine ex_drewL ?_) | (with_reducible refine ex_appR ?_ _) | (with_reducible refine ex_wx ?_ _) | (with_reducible refine ex_drew ?_) | (with_reducible refine ex_alloc ?_ _)))
      · have hw2 : wellN et ek dn = false := by simpa using hw
        rw [hw2, Bool.false_and, Bool.false_and] at HG
        obtain rfl := HG.out
        clear HG hw
        go_wp2_with (go_at_call 94; (with_reducible refine (well_any et ek da dn dc _).mono ?_); rw [hw2]; rintro e w2 ⟨rfl, X, rfl⟩)
        go_ret
        exact post_mk rfl (by (try show Ex _ _); repeat (first | (with_reducible exact ex_refl _) | (with_reducible assumption) | (with_reducible refine ex_drewL ?_) | (with_reducible refine ex_appR ?_ _) | (with_reducible refine ex_wx ?_ _) | (with_reducible refine ex_drew ?_) | (with_reducible refine ex_alloc ?_ _)))
    · obtain rfl : k = n := by omega
      have e2 := HO.out
      rw [HE2.out] at e2
      subst e2
      clear hlt hk HS HD2 HE2 H02 HO
      go_wp2
      go_ret
      exact post_mk rfl (by (try show Ex _ _); repeat (first | (with_reducible exact ex_refl _) | (with_reducible assumption) | (with_reducible refine ex_drewL ?_) | (with_reducible refine ex_appR ?_ _) | (with_reducible refine ex_wx ?_ _) | (with_reducible refine ex_drew ?_) | (with_reducible refine ex_alloc ?_ _)))
end Go.Proofs.YtpcfkjeikhehaaaDoor

/- Logs: what may be. -/
set_option linter.unusedSimpArgs false
set_option linter.unusedVariables false
set_option maxRecDepth 20000
namespace Go.Proofs.YtpcfkjeikhehaaaDoor
open Go.RowKit
def roomB (x : UInt64) (n : Nat) : Bool := decide (x.toNat + n ≤ 18446744073709551614)
set_option maxHeartbeats 1000000 in
theorem room_any (x : UInt64) (n : Nat) (hn : n ≤ 1000000) (w : World) :
    Calls Tryd.prog 81 #[L x, I n] w (Post w (.bool (roomB x n))) := by
  have hx := ln_lt x
  have hxn : ln x = (x.toNat : Int) := rfl
  by_cases h1 : ln x ≤ 18446744073709551614
  · have w1 : IntKind.u64.wrap (n : Int) = n := wrap_u64_nat _ (by omega)
    have w2 : IntKind.u64.wrap (18446744073709551614 - ln x) = 18446744073709551614 - ln x := by rw [IntKind.wrap_u64]; omega
    have h2 : decide ((n : Int) ≤ 18446744073709551614 - ln x) = roomB x n := by unfold roomB; exact decide_eq_decide.2 (by omega)
    clear hxn
    go_enter Tryd.func81, Tryd.ntmps81
    go_wp2
    go_ret
    exact post_mk (by rw [← h2]; rfl) (by (try show Ex _ _); repeat (first | (with_reducible exact ex_refl _) | (with_reducible assumption) | (with_reducible refine ex_drewL ?_) | (with_reducible refine ex_appR ?_ _) | (with_reducible refine ex_wx ?_ _) | (with_reducible refine ex_drew ?_) | (with_reducible refine ex_alloc ?_ _)))
  · have h2 : roomB x n = false := decide_eq_false (by omega)
    rw [h2]
    clear hxn
    go_enter Tryd.func81, Tryd.ntmps81
    go_wp2
    go_ret
    exact post_mk rfl (by (try show Ex _ _); repeat (first | (with_reducible exact ex_refl _) | (with_reducible assumption) | (with_reducible refine ex_drewL ?_) | (with_reducible refine ex_appR ?_ _) | (with_reducible refine ex_wx ?_ _) | (with_reducible refine ex_drew ?_) | (with_reducible refine ex_alloc ?_ _)))
theorem lastT_nil (t : UInt64) (l : List En) (h : l.length = 0) : lastT t l = t := by rw [List.eq_nil_of_length_eq_zero h]; rfl
theorem lastT_at (t : UInt64) (l : List En) (k : Nat) (h : l.length = k + 1) : lastT t l = (enAt l k).1 := by
  unfold lastT enAt
  rw [List.getLast?_eq_getElem?, List.getD_eq_getElem?_getD, h, Nat.add_sub_cancel]
  rw [List.getElem?_eq_getElem (by omega)]; rfl
theorem info_at : (Tryd.prog.info? 35).map (·.size) = some 2 := by kernel_rfl
@[go_sem] theorem field_at (x y : Value) (w : World) : (Instr.field 35 (.agg #[x, y]) 1).run Tryd.prog w = .ok y w := by kernel_rfl
theorem cells2 {w : World} {g : Nat} {x y : Value} (h0 : w.cell? ⟨g, 0, none⟩ = some x) (h1 : w.cell? ⟨g, 1, none⟩ = some y) : cellsN w g 0 2 = some #[x, y] := by
  refine cellsN_some.2 ⟨rfl, fun j hj => ?_⟩
  have : j = 0 ∨ j = 1 := by omega
  rcases this with rfl | rfl
  · exact h0
  · exact h1
set_option maxHeartbeats 1000000 in
theorem spot_any (pi pt : UInt64) (l : List En) (v : Value) (w : World) (hl : l.length ≤ 1000) (hs : SlG w v l) :
    Calls Tryd.prog 83 #[.agg #[L pi, L pt, v], I l.length] w fun e w' => ∃ x, e = .returned (.agg #[L x, L (lastT pt l)]) ∧ Ex w w' := by
  obtain ⟨a, cc, rfl, hc, hcm, _, hs⟩ := hs.out
  have HS : Hid (∀ W, Ex w W → ∀ i, i < l.length → ∃ g off da dc, a = some ⟨g, off, none⟩ ∧ g < W.heap.size ∧ W.cell? ⟨g, off + i * 3, none⟩ = some (L (enAt l i).1) ∧ W.cell? ⟨g, off + i * 3 + 1, none⟩ = some (I (enAt l i).2.1) ∧
    W.cell? ⟨g, off + i * 3 + 2, none⟩ = some (.slice da (enAt l i).2.2.length dc) ∧ SlT W (.slice da (enAt l i).2.2.length dc) (enAt l i).2.2) := Lib.hid fun W k i hi => (hs.ex k).row hi
  rcases Nat.eq_zero_or_pos l.length with h0 | hpos
  · rw [lastT_nil pt l h0]
    rw [h0]
    clear h0 HS hs hl
    go_enter Tryd.func83, Tryd.ntmps83
    go_wp2
    exact ret_row (cs := #[L pi, L pt]) Tryd.results83 Tryd.underlying35 rfl info_at rfl (cells2 (by simp [go_sem]) (by simp [go_sem])) rfl ⟨_, rfl, (by (try show Ex _ _); repeat (first | (with_reducible exact ex_refl _) | (with_reducible assumption) | (with_reducible refine ex_drewL ?_) | (with_reducible refine ex_appR ?_ _) | (with_reducible refine ex_wx ?_ _) | (with_reducible refine ex_drew ?_) | (with_reducible refine ex_alloc ?_ _)))⟩
  · obtain ⟨k, hk⟩ : ∃ k, l.length = k + 1 := ⟨l.length - 1, by omega⟩
    rw [lastT_at pt l k hk]
    obtain ⟨g, off, da, dc, rfl, r1, c0, _⟩ := HS.out w (ex_refl _) k (by omega)
    clear HS hs
    generalize (enAt l k).1 = t at *
    generalize l.length = n at *
    have e1 : (n : Int) - 1 = k := by omega
    have e2 : ((n : Int) == 0) = false := beq_eq_false_iff_ne.2 (by omega)
    have e3 : (k : Int) < n := by omega
    have w1 : IntKind.u64.wrap (n : Int) = n := wrap_u64_nat _ (by omega)
    have hp := ln_lt pi
    obtain ⟨x, hx⟩ := ln_of (IntKind.u64.wrap (ln pi + n)) (by rw [IntKind.wrap_u64]; omega)
    clear hpos hk hp
    go_enter Tryd.func83, Tryd.ntmps83
    go_wp2
    refine wp_region_seqA ((w.alloc (.cells #[L pi, L pt, .slice (some ⟨g, off, none⟩) n cc] 93))) [(0, true), (1, true), (2, true), (3, true), (4, true), (5, true), (6, true), (7, true), (8, true), (9, true), (10, true), (11, true), (12, true), (13, true), (14, true), (15, true), (16, false)] (by (try show Ex _ _); repeat (first | (with_reducible exact ex_refl _) | (with_reducible assumption) | (with_reducible refine ex_drewL ?_) | (with_reducible refine ex_appR ?_ _) | (with_reducible refine ex_wx ?_ _) | (with_reducible refine ex_drew ?_) | (with_reducible refine ex_alloc ?_ _))) (by kernel_rfl) (by kernel_rfl) (fun _ _ d _ _ h => by cases d <;> exact h) ?_
    simp only [List.map_cons, List.map_nil, nth]
    repeat (first | ((with_reducible refine wpSeq_look ?_); go_big_quiet_step (fail); (with_reducible refine wpQuiet_nil ?_)) | ((with_reducible refine wpSeq_effF ?_ ?_); (focus rfl); go_simp) | ((with_reducible refine wpSeq_eff ?_ ?_); (focus rfl); (try dsimp only); go_wp2_with (fail); refine mixQ_mk (by (try show Ex _ _); repeat (first | (with_reducible exact ex_refl _) | (with_reducible assumption) | (with_reducible refine ex_drewL ?_) | (with_reducible refine ex_appR ?_ _) | (with_reducible refine ex_wx ?_ _) | (with_reducible refine ex_drew ?_) | (with_reducible refine ex_alloc ?_ _))) ?_))
    refine wpSeq_nil ?_
    go_wp2
    exact ret_row (cs := #[L x, L t]) Tryd.results83 Tryd.underlying35 rfl info_at rfl (cells2 (by simp [go_sem, hx]) (by simp [go_sem])) rfl ⟨_, rfl, (by (try show Ex _ _); repeat (first | (with_reducible exact ex_refl _) | (with_reducible assumption) | (with_reducible refine ex_drewL ?_) | (with_reducible refine ex_appR ?_ _) | (with_reducible refine ex_wx ?_ _) | (with_reducible refine ex_drew ?_) | (with_reducible refine ex_alloc ?_ _)))⟩
set_option maxHeartbeats 1000000 in
theorem end_any (pi pt : UInt64) (l : List En) (v : Value) (w : World) (hl : l.length ≤ 1000) (hs : SlG w v l) :
    Calls Tryd.prog 63 #[.agg #[L pi, L pt, v]] w fun e w' => ∃ x, e = .returned (.agg #[L x, L (lastT pt l)]) ∧ Ex w w' := by
  have hs2 := Lib.hid hs
  obtain ⟨a, cc, rfl, hc, hcm, _, _⟩ := hs.out
  clear hs
  have HP := Lib.hid (fun w' (k : Ex w w') => spot_any pi pt l _ w' hl (hs2.out.ex k))
  clear hs2
  generalize l.length = n at *
  go_enter Tryd.func63, Tryd.ntmps63
  go_wp2_with (go_at_call 83; (with_reducible refine (HP.out _ (by (try show Ex _ _); repeat (first | (with_reducible exact ex_refl _) | (with_reducible assumption) | (with_reducible refine ex_drewL ?_) | (with_reducible refine ex_appR ?_ _) | (with_reducible refine ex_wx ?_ _) | (with_reducible refine ex_drew ?_) | (with_reducible refine ex_alloc ?_ _)))).mono ?_); rintro e w2 ⟨x, rfl, X, rfl⟩)
  exact ret_row (cs := #[L x, L (lastT pt l)]) Tryd.results63 Tryd.underlying35 rfl info_at rfl (cells2 (by simp [go_sem]) (by simp [go_sem])) rfl ⟨_, rfl, (by (try show Ex _ _); repeat (first | (with_reducible exact ex_refl _) | (with_reducible assumption) | (with_reducible refine ex_drewL ?_) | (with_reducible refine ex_appR ?_ _) | (with_reducible refine ex_wx ?_ _) | (with_reducible refine ex_drew ?_) | (with_reducible refine ex_alloc ?_ _)))⟩
def mayB (pi pt : UInt64) (l : List En) : Bool := (decide (pi = 0) == decide (pt = 0)) && decide (l.length ≤ 16) && roomB pi l.length && standE l pt
set_option maxHeartbeats 1000000 in
theorem may_any (pi pt : UInt64) (l : List En) (v : Value) (w : World) (hl : l.length ≤ 1000) (hs : SlG w v l) :
    Calls Tryd.prog 62 #[.agg #[L pi, L pt, v]] w (Post w (.bool (mayB pi pt l))) := by
  have hs2 := Lib.hid hs
  obtain ⟨a, cc, rfl, hc, hcm, _, _⟩ := hs.out
  clear hs
  have HP := Lib.hid (fun w' (k : Ex w w') => stand_any l pt _ w' (hs2.out.ex k))
  clear hs2
  unfold mayB
  generalize l.length = n at *
  generalize standE l pt = st at *
  have HR := Lib.hid (fun w' => room_any pi n (by omega) w')
  generalize roomB pi n = ro at *
  go_enter Tryd.func62, Tryd.ntmps62
  by_cases h0 : (decide (pi = 0) == decide (pt = 0)) = true
  · have e0 : (0 < ln pi) ↔ (0 < ln pt) := by
      simp only [ln_pos]
      by_cases h1 : pi = 0 <;> by_cases h2 : pt = 0 <;> simp_all
    rw [h0, Bool.true_and]
    by_cases h16 : n ≤ 16
    · have e1 : ¬ (16 : Int) < n := by omega
      rw [decide_eq_true h16, Bool.true_and]
      cases ro with
      | true =>
        rw [Bool.true_and]
        go_wp2_with (first | (go_at_call 81; (with_reducible refine (HR.out _).mono ?_); rintro e w2 ⟨rfl, X, rfl⟩) | (go_at_call 82; (with_reducible refine (HP.out _ (by (try show Ex _ _); repeat (first | (with_reducible exact ex_refl _) | (with_reducible assumption) | (with_reducible refine ex_drewL ?_) | (with_reducible refine ex_appR ?_ _) | (with_reducible refine ex_wx ?_ _) | (with_reducible refine ex_drew ?_) | (with_reducible refine ex_alloc ?_ _)))).mono ?_); rintro e w2 ⟨rfl, X2, rfl⟩))
        go_ret
        exact post_mk rfl (by (try show Ex _ _); repeat (first | (with_reducible exact ex_refl _) | (with_reducible assumption) | (with_reducible refine ex_drewL ?_) | (with_reducible refine ex_appR ?_ _) | (with_reducible refine ex_wx ?_ _) | (with_reducible refine ex_drew ?_) | (with_reducible refine ex_alloc ?_ _)))
      | false =>
        rw [Bool.false_and]
        go_wp2_with (first | (go_at_call 81; (with_reducible refine (HR.out _).mono ?_); rintro e w2 ⟨rfl, X, rfl⟩) | (go_at_call 82; (with_reducible refine (HP.out _ (by (try show Ex _ _); repeat (first | (with_reducible exact ex_refl _) | (with_reducible assumption) | (with_reducible refine ex_drewL ?_) | (with_reducible refine ex_appR ?_ _) | (with_reducible refine ex_wx ?_ _) | (with_reducible refine ex_drew ?_) | (with_reducible refine ex_alloc ?_ _)))).mono ?_); rintro e w2 ⟨rfl, X2, rfl⟩))
        go_ret
        exact post_mk rfl (by (try show Ex _ _); repeat (first | (with_reducible exact ex_refl _) | (with_reducible assumption) | (with_reducible refine ex_drewL ?_) | (with_reducible refine ex_appR ?_ _) | (with_reducible refine ex_wx ?_ _) | (with_reducible refine ex_drew ?_) | (with_reducible refine ex_alloc ?_ _)))
    · have e1 : (16 : Int) < n := by omega
      rw [decide_eq_false h16, Bool.false_and]
      go_wp2
      go_ret
      exact post_mk rfl (by (try show Ex _ _); repeat (first | (with_reducible exact ex_refl _) | (with_reducible assumption) | (with_reducible refine ex_drewL ?_) | (with_reducible refine ex_appR ?_ _) | (with_reducible refine ex_wx ?_ _) | (with_reducible refine ex_drew ?_) | (with_reducible refine ex_alloc ?_ _)))
  · have h0' : (decide (pi = 0) == decide (pt = 0)) = false := by simpa using h0
    have e0 : ¬ ((0 < ln pi) ↔ (0 < ln pt)) := by
      simp only [ln_pos]
      by_cases h1 : pi = 0 <;> by_cases h2 : pt = 0 <;> simp_all
    rw [h0', Bool.false_and, Bool.false_and, Bool.false_and]
    go_wp2
    go_ret
    exact post_mk rfl (by (try show Ex _ _); repeat (first | (with_reducible exact ex_refl _) | (with_reducible assumption) | (with_reducible refine ex_drewL ?_) | (with_reducible refine ex_appR ?_ _) | (with_reducible refine ex_wx ?_ _) | (with_reducible refine ex_drew ?_) | (with_reducible refine ex_alloc ?_ _)))
def logErr (pi pt top : UInt64) (l : List En) : Int := if mayB pi pt l then (if top.toNat < (lastT pt l).toNat then 2 else 0) else 160
set_option maxHeartbeats 1000000 in
theorem logCheck_any (pi pt top : UInt64) (l : List En) (v : Value) (w : World) (hl : l.length ≤ 1000) (hs : SlG w v l) :
    Calls Tryd.prog 37 #[.agg #[L pi, L pt, v], L top] w (Post w (I (logErr pi pt top l))) := by
  have hs2 := Lib.hid hs
  obtain ⟨a, cc, rfl, hc, hcm, _, _⟩ := hs.out
  clear hs
  have HP := Lib.hid (fun w' (k : Ex w w') => may_any pi pt l _ w' hl (hs2.out.ex k))
  have HQ := Lib.hid (fun w' (k : Ex w w') => end_any pi pt l _ w' hl (hs2.out.ex k))
  clear hs2
  unfold logErr
  generalize l.length = n at *
  generalize mayB pi pt l = mb at *
  generalize lastT pt l = lt at *
  cases mb with
  | false =>
    simp only [Bool.false_eq_true, if_false]
    go_enter Tryd.func37, Tryd.ntmps37
    go_wp2_with (go_at_call 62; (with_reducible refine (HP.out _ (by (try show Ex _ _); repeat (first | (with_reducible exact ex_refl _) | (with_reducible assumption) | (with_reducible refine ex_drewL ?_) | (with_reducible refine ex_appR ?_ _) | (with_reducible refine ex_wx ?_ _) | (with_reducible refine ex_drew ?_) | (with_reducible refine ex_alloc ?_ _)))).mono ?_); rintro e w2 ⟨rfl, X, rfl⟩)
    go_ret
    exact post_mk rfl (by (try show Ex _ _); repeat (first | (with_reducible exact ex_refl _) | (with_reducible assumption) | (with_reducible refine ex_drewL ?_) | (with_reducible refine ex_appR ?_ _) | (with_reducible refine ex_wx ?_ _) | (with_reducible refine ex_drew ?_) | (with_reducible refine ex_alloc ?_ _)))
  | true =>
    simp only [if_true]
    by_cases hlt : top.toNat < lt.toNat
    · have e1 : ln top < ln lt := by rw [ln_ltn]; exact hlt
      rw [if_pos hlt]
      go_enter Tryd.func37, Tryd.ntmps37
      go_wp2_with (first | (go_at_call 62; (with_reducible refine (HP.out _ (by (try show Ex _ _); repeat (first | (with_reducible exact ex_refl _) | (with_reducible assumption) | (with_reducible refine ex_drewL ?_) | (with_reducible refine ex_appR ?_ _) | (with_reducible refine ex_wx ?_ _) | (with_reducible refine ex_drew ?_) | (with_reducible refine ex_alloc ?_ _)))).mono ?_); rintro e w2 ⟨rfl, X, rfl⟩) | (go_at_call 63; (with_reducible refine (HQ.out _ (by (try show Ex _ _); repeat (first | (with_reducible exact ex_refl _) | (with_reducible assumption) | (with_reducible refine ex_drewL ?_) | (with_reducible refine ex_appR ?_ _) | (with_reducible refine ex_wx ?_ _) | (with_reducible refine ex_drew ?_) | (with_reducible refine ex_alloc ?_ _)))).mono ?_); rintro e w2 ⟨x, rfl, X2, rfl⟩))
      go_ret
      exact post_mk rfl (by (try show Ex _ _); repeat (first | (with_reducible exact ex_refl _) | (with_reducible assumption) | (with_reducible refine ex_drewL ?_) | (with_reducible refine ex_appR ?_ _) | (with_reducible refine ex_wx ?_ _) | (with_reducible refine ex_drew ?_) | (with_reducible refine ex_alloc ?_ _)))
    · have e1 : ¬ ln top < ln lt := by rw [ln_ltn]; exact hlt
      rw [if_neg hlt]
      go_enter Tryd.func37, Tryd.ntmps37
      go_wp2_with (first | (go_at_call 62; (with_reducible refine (HP.out _ (by (try show Ex _ _); repeat (first | (with_reducible exact ex_refl _) | (with_reducible assumption) | (with_reducible refine ex_drewL ?_) | (with_reducible refine ex_appR ?_ _) | (with_reducible refine ex_wx ?_ _) | (with_reducible refine ex_drew ?_) | (with_reducible refine ex_alloc ?_ _)))).mono ?_); rintro e w2 ⟨rfl, X, rfl⟩) | (go_at_call 63; (with_reducible refine (HQ.out _ (by (try show Ex _ _); repeat (first | (with_reducible exact ex_refl _) | (with_reducible assumption) | (with_reducible refine ex_drewL ?_) | (with_reducible refine ex_appR ?_ _) | (with_reducible refine ex_wx ?_ _) | (with_reducible refine ex_drew ?_) | (with_reducible refine ex_alloc ?_ _)))).mono ?_); rintro e w2 ⟨x, rfl, X2, rfl⟩))
      go_ret
      exact post_mk rfl (by (try show Ex _ _); repeat (first | (with_reducible exact ex_refl _) | (with_reducible assumption) | (with_reducible refine ex_drewL ?_) | (with_reducible refine ex_appR ?_ _) | (with_reducible refine ex_wx ?_ _) | (with_reducible refine ex_drew ?_) | (with_reducible refine ex_alloc ?_ _)))
end Go.Proofs.YtpcfkjeikhehaaaDoor
