import Derived.Test.YtabjamkkhlbajaaDoorMWlM
import Derived.Test.YtabjamkkhlbajaaDoorMWlE

/- The log: rows of sectors that are compared; rows of bytes; what whole finds, step by step. -/
set_option linter.unusedSimpArgs false
set_option linter.unusedVariables false
set_option linter.unnecessarySimpa false
set_option maxRecDepth 20000
namespace Go.Proofs.YtabjamkkhlbajaaDoor
open Go.RowKit
theorem list_eqW {α : Type} {l m : List α} {n : Nat} (h1 : l.length = n) (h2 : m.length = n) (h : ∀ (k : Nat), k < n → l[k]? = m[k]?) : l = m := by
  apply List.ext_getElem?
  intro i
  by_cases hi : i < n
  · exact h i hi
  · rw [List.getElem?_eq_none (by omega), List.getElem?_eq_none (by omega)]
set_option maxHeartbeats 400000 in
theorem eqBk_any (l m : List Bk) (v u : Value) (w : World) (hs : SlV1 KK 64 w v l) (ht : SlV1 KK 64 w u m) (hl : l.length ≤ 1000000) (hm : m.length ≤ 1000000) :
    Calls Tryd.prog 70 #[v, u] w (Post w (.bool (decide (l = m)))) := by
  obtain ⟨a, c, rfl, h1, h2, _, h4⟩ := hs.out
  obtain ⟨b, e, rfl, k1, k2, _, k4⟩ := ht.out
  unfold maxLen at h2 k2
  have HS := Lib.hid h4
  have HT := Lib.hid k4
  clear hs ht h4 k4
  by_cases hlm : l.length = m.length
  · obtain ⟨n, hn⟩ : ∃ n, l.length = n := ⟨_, rfl⟩
    have hn2 : m.length = n := by omega
    have Hn := Lib.hid hn
    have Hn2 := Lib.hid hn2
    rw [hn] at h1 hl ⊢
    rw [hn2] at k1 hm ⊢
    clear hn hn2 hlm
    go_enter Tryd.func70, Tryd.ntmps70
    go_wp2
    go_loopw [13] (fun i W => ∃ k : Nat, k ≤ n ∧ i = I k ∧ Hid (∀ (j : Nat), j < k → l[j]? = m[j]?) ∧ Ex w W) (fun i _ => n - (intOf i).toNat)
    case atStart => exact ⟨0, by omega, rfl, Lib.hid fun j hj => by omega, (by (try show Ex _ _); with_reducible repeat (first | exact ex_refl _ | assumption | refine ex_drewL ?_ | refine ex_appR ?_ _ | refine ex_wx ?_ _ | refine ex_drew ?_ | refine ex_alloc ?_ _))⟩
    case round =>
      obtain ⟨k, hk, rfl, HE, hw⟩ := hrel
      by_cases hlt : k < n
      · obtain ⟨x, hx⟩ : ∃ x, l[k]? = some x := ⟨_, List.getElem?_eq_getElem (by rw [Hn.out]; exact hlt)⟩
        obtain ⟨y, hy⟩ : ∃ y, m[k]? = some y := ⟨_, List.getElem?_eq_getElem (by rw [Hn2.out]; exact hlt)⟩
        obtain ⟨g, off, rfl, hg, hc⟩ := (HS.out.ex hw).pos (by rw [Hn.out]; omega)
        obtain ⟨g', off', rfl, hg', hc'⟩ := (HT.out.ex hw).pos (by rw [Hn2.out]; omega)
        have c1 := hc k x hx
        have c2 := hc' k y hy
        rw [KK_back] at c1 c2
        have hkn : (k : Int) < n := by omega
        have Hx := Lib.hid hx
        have Hy := Lib.hid hy
        by_cases hxy : x = y
        · have e1 : eqF (bkF x) (bkF y) 64 = true := by rw [eqF_blk]; exact decide_eq_true hxy
          have HE2 : Hid (∀ (j : Nat), j < k + 1 → l[j]? = m[j]?) := Lib.hid fun j hj => by
            by_cases hjk : j < k
            · exact HE.out j hjk
            · obtain rfl : j = k := by omega
              rw [Hx.out, Hy.out, hxy]
          generalize bkF x = fx at *
          generalize bkF y = fy at *
          clear hc hc' hx hy HE hxy
          go_wp2
          refine wp_region_seqA (wr) [(0, true), (1, true), (2, true), (3, true), (4, true), (5, true), (6, true), (7, true), (8, true)] (by (try show Ex _ _); with_reducible repeat (first | exact ex_refl _ | assumption | refine ex_drewL ?_ | refine ex_appR ?_ _ | refine ex_wx ?_ _ | refine ex_drew ?_ | refine ex_alloc ?_ _)) (by kernel_rfl) (by kernel_rfl) (fun _ _ d _ _ h => by cases d <;> exact h) ?_
          simp only [List.map_cons, List.map_nil, nth]
          repeat (first | ((with_reducible refine wpSeq_look ?_); go_big_quiet_step (fail); (with_reducible refine wpQuiet_nil ?_)) | ((with_reducible refine wpSeq_effF ?_ ?_); (focus rfl); go_simp) | ((with_reducible refine wpSeq_eff ?_ ?_); (focus rfl); (try dsimp only); go_wp2_with (fail); refine mixQ_mk (by (try show Ex _ _); with_reducible repeat (first | exact ex_refl _ | assumption | refine ex_drewL ?_ | refine ex_appR ?_ _ | refine ex_wx ?_ _ | refine ex_drew ?_ | refine ex_alloc ?_ _)) ?_))
          refine wpSeq_nil ?_
          go_wp2
          exact ⟨⟨k + 1, by omega, by go_num, HE2, (by (try show Ex _ _); with_reducible repeat (first | exact ex_refl _ | assumption | refine ex_drewL ?_ | refine ex_appR ?_ _ | refine ex_wx ?_ _ | refine ex_drew ?_ | refine ex_alloc ?_ _))⟩, by simp [intOf]; omega⟩
        · have e1 : eqF (bkF x) (bkF y) 64 = false := by rw [eqF_blk]; exact decide_eq_false hxy
          have hne : decide (l = m) = false := decide_eq_false fun e => by
            rw [e, Hy.out] at Hx
            exact hxy (Option.some.inj Hx.out).symm
          generalize bkF x = fx at *
          generalize bkF y = fy at *
          replace hne := Lib.hid hne
          clear hc hc' hx hy HE hxy
          go_wp2
          refine wp_region_seqA (wr) [(0, true), (1, true), (2, true), (3, true), (4, true), (5, true), (6, true), (7, true), (8, true)] (by (try show Ex _ _); with_reducible repeat (first | exact ex_refl _ | assumption | refine ex_drewL ?_ | refine ex_appR ?_ _ | refine ex_wx ?_ _ | refine ex_drew ?_ | refine ex_alloc ?_ _)) (by kernel_rfl) (by kernel_rfl) (fun _ _ d _ _ h => by cases d <;> exact h) ?_
          simp only [List.map_cons, List.map_nil, nth]
          repeat (first | ((with_reducible refine wpSeq_look ?_); go_big_quiet_step (fail); (with_reducible refine wpQuiet_nil ?_)) | ((with_reducible refine wpSeq_effF ?_ ?_); (focus rfl); go_simp) | ((with_reducible refine wpSeq_eff ?_ ?_); (focus rfl); (try dsimp only); go_wp2_with (fail); refine mixQ_mk (by (try show Ex _ _); with_reducible repeat (first | exact ex_refl _ | assumption | refine ex_drewL ?_ | refine ex_appR ?_ _ | refine ex_wx ?_ _ | refine ex_drew ?_ | refine ex_alloc ?_ _)) ?_))
          refine wpSeq_nil ?_
          go_wp2
          go_ret
          exact post_mk' (v' := .bool false) (by rw [hne.out]) (by (try show Ex _ _); with_reducible repeat (first | exact ex_refl _ | assumption | refine ex_drewL ?_ | refine ex_appR ?_ _ | refine ex_wx ?_ _ | refine ex_drew ?_ | refine ex_alloc ?_ _))
      · obtain rfl : k = n := by omega
        have hd : decide (l = m) = true := decide_eq_true (list_eqW Hn.out Hn2.out HE.out)
        replace hd := Lib.hid hd
        clear HE hlt
        go_wp2
        go_ret
        exact post_mk' (v' := .bool true) (by rw [hd.out]) (by (try show Ex _ _); with_reducible repeat (first | exact ex_refl _ | assumption | refine ex_drewL ?_ | refine ex_appR ?_ _ | refine ex_wx ?_ _ | refine ex_drew ?_ | refine ex_alloc ?_ _))
  · have hd : decide (l = m) = false := decide_eq_false fun e => hlm (by rw [e])
    rw [hd]
    have q1 : ((l.length : Int) != m.length) = true := by simp; omega
    have q2 : ((l.length : Int) == m.length) = false := by simp; omega
    clear hd HS HT
    go_enter Tryd.func70, Tryd.ntmps70
    go_wp2
    go_ret
    exact post_mk' rfl (by (try show Ex _ _); with_reducible repeat (first | exact ex_refl _ | assumption | refine ex_drewL ?_ | refine ex_appR ?_ _ | refine ex_wx ?_ _ | refine ex_drew ?_ | refine ex_alloc ?_ _))
theorem whole_fuel : ∀ (f g : Nat) (l : List Bk), l.length ≤ f → l.length ≤ g → wholeP f l = wholeP g l
  | f, g, [], _, _ => by cases f <;> cases g <;> rfl
  | 0, _, b :: r, h, _ => by simp at h
  | _ + 1, 0, b :: r, _, h => by simp at h
  | f + 1, g + 1, b :: r, h, k => by
    have hp := secs_pos (num4 (blkL b))
    have hl : ((b :: r).drop (secs (num4 (blkL b)))).length ≤ r.length := by rw [List.length_drop, List.length_cons]; omega
    rw [List.length_cons] at h k
    unfold wholeP
    rw [whole_fuel f g _ (by omega) (by omega)]
theorem wholeW_cons (b : Bk) (r : List Bk) : wholeW (b :: r) = if 50000 < num4 (blkL b) ∨ r.length + 1 < secs (num4 (blkL b)) then none
    else if sheetB ((((((b :: r).take (secs (num4 (blkL b)))).flatMap blkL).drop 4).take (num4 (blkL b)))) = (b :: r).take (secs (num4 (blkL b))) then
      (wholeW ((b :: r).drop (secs (num4 (blkL b))))).map (((((b :: r).take (secs (num4 (blkL b)))).flatMap blkL).drop 4).take (num4 (blkL b)) :: ·)
    else none := by
  have hp := secs_pos (num4 (blkL b))
  have hl : ((b :: r).drop (secs (num4 (blkL b)))).length ≤ r.length := by rw [List.length_drop, List.length_cons]; omega
  show wholeP (r.length + 1) (b :: r) = _
  unfold wholeW
  rw [← whole_fuel r.length _ ((b :: r).drop (secs (num4 (blkL b)))) hl (Nat.le_refl _)]
  rfl
end Go.Proofs.YtabjamkkhlbajaaDoor

/- The log: the sheets that stand in sectors. -/
set_option linter.unusedSimpArgs false
set_option linter.unusedVariables false
set_option linter.unnecessarySimpa false
set_option maxRecDepth 20000
namespace Go.Proofs.YtabjamkkhlbajaaDoor
open Go.RowKit
theorem SlV1.cut {w : World} {a : Option Addr} {n c : Nat} {l : List Bk} (h : SlV1 KK 64 w (.slice a n c) l) {k : Nat} (hk : k ≤ l.length) : SlV1 KK 64 w (.slice a k c) (l.take k) := by
  obtain ⟨a', c', hv, h1, h2, h3, h4⟩ := h.out
  obtain ⟨rfl, rfl, rfl⟩ := Value.slice.inj hv
  have e : (l.take k).length = k := by rw [List.length_take]; omega
  exact ⟨a, c, by rw [e], by rw [e]; omega, h2, h3, h4.take k⟩
theorem SlV1.off {w : World} {g off n c : Nat} {l : List Bk} (h : SlV1 KK 64 w (.slice (some ⟨g, off, none⟩) n c) l) {k : Nat} (hk : k ≤ l.length) : SlV1 KK 64 w (.slice (some ⟨g, off + k * 64, none⟩) (n - k) (c - k)) (l.drop k) := by
  obtain ⟨a', c', hv, h1, h2, h3, h4⟩ := h.out
  obtain ⟨rfl, rfl, rfl⟩ := Value.slice.inj hv
  have e : (l.drop k).length = l.length - k := List.length_drop
  exact ⟨_, c - k, by rw [e], by rw [e]; omega, by omega, (fun e => by cases e), h4.drop k⟩
/-- Blocks of bytes are kept. -/
def K8 (w w' : World) : Prop := ∀ (g : Nat) (cs : Array Value) (fr : Nat × Nat), w.heap[g]? = some (.cells cs 5 fr) → w'.heap[g]? = some (.cells cs 5 fr)
theorem K8.ex {w w' : World} (k : Ex w w') : K8 w w' := fun g cs fr h => ex_block k h
theorem K8.trans {a b c : World} (h : K8 a b) (k : K8 b c) : K8 a c := fun g cs fr h1 => k g cs fr (h g cs fr h1)
theorem TyB.k8 {w w' : World} {v : Value} {l : By} (h : TyB w v l) (k : K8 w w') : TyB w' v l := by
  obtain ⟨a, c, rfl, h1, h2, h3, h4⟩ := h.out
  refine ⟨a, c, rfl, h1, h2, h3, h4.imp id ?_⟩
  rintro ⟨g, off, cs, fr, rfl, hb, hc⟩
  exact ⟨g, off, cs, fr, rfl, k g cs fr hb, hc⟩
theorem K8.apd {w w' : World} {Z n : Nat} {v v' : Value} {us : List Value} (h : w.ownsRow Z 22 1 v n us) (k : Apd w w' v v') : K8 w w' := fun g cs fr hg => by
  rw [k.block g (Array.getElem?_eq_some_iff.1 hg).1 fun e => ?_]
  · exact hg
  · rcases h.2 with ⟨rfl, _⟩ | ⟨g', cap, cur, rfl, _, h2, _⟩
    · cases e
    · obtain rfl : g' = g := Option.some.inj e
      rw [h2] at hg
      injection hg with hg
      injection hg with _ ht _
      exact absurd ht (by decide)
/-- Sheets in a row of the call's own. -/
structure ShO (W : World) (Z : Nat) (v : Value) (ls : List By) : Prop where
  out : ∃ us : List Value, W.ownsRow Z 22 1 v ls.length us ∧ ∀ (j : Nat) (l : By), ls[j]? = some l → ∃ u, us[j]? = some u ∧ TyB W u l
theorem ShO.nil (W : World) (Z : Nat) : ShO W Z (.slice none 0 0) [] := ⟨[], World.ownsRow_nil _ _ _ _, fun j l h => by simp at h⟩
theorem ShO.ex {W W' : World} {Z : Nat} {v : Value} {ls : List By} (h : ShO W Z v ls) (k : Ex W W') : ShO W' Z v ls := by
  obtain ⟨us, h1, h2⟩ := h.out
  exact ⟨us, owns_ex h1 k, fun j l hl => by
    obtain ⟨u, q1, q2⟩ := h2 j l hl
    exact ⟨u, q1, q2.ky (Ky.ex k)⟩⟩
theorem ShO.sh {W : World} {Z : Nat} {v : Value} {ls : List By} (h : ShO W Z v ls) : SlSh W v ls := by
  obtain ⟨us, h1, h2⟩ := h.out
  exact slsh_own h1 rfl h2
theorem ShO.form {W : World} {Z : Nat} {v : Value} {ls : List By} (h : ShO W Z v ls) : ∃ a c, v = .slice a ls.length c ∧ (ls.length ≤ c ∧ c ≤ maxLen) := by
  obtain ⟨us, h1, _⟩ := h.out
  obtain ⟨a, c, hv, h2, h3, _⟩ := own_form h1
  exact ⟨a, c, hv, h2, h3⟩
/-- A sheet's slice behind others in a row of the call's own. -/
theorem wpAppO {ops : Array Oper} {rest : List Oper} {o : Oper} {a : Act} {w : World} {Q : Exit → Act → World → Prop} (s x : Operand) (hgd : o.guard = none)
    (ho : o.op = .call { callee := .builtin .append, args := #[s, x], argTypes := #[30, 30] })
    {Z : Nat} {v : Value} {ls : List By} {b : By} (hown : ShO w Z v ls) (hs : a.eval s = v) {g c : Nat} {u : Value} (hx : a.eval x = .slice (some ⟨g, 0, none⟩) 1 c) (hc : w.cell? ⟨g, 0, none⟩ = some u) (hu : TyB w u b) (hb : ls.length ≤ 1000000) (hZ : Z ≤ w.heap.size)
    (h : ∀ v' w', ShO w' Z v' (ls ++ [b]) → Below Z w w' → K8 w w' → Apd w w' v v' → wpList Tryd.prog ops Q rest (a.put o.dst v') w') : wpList Tryd.prog ops Q (o :: rest) a w := by
  obtain ⟨us, h1, h2⟩ := hown.out
  have hl : us.length = ls.length := by have := h1.1; omega
  have h1u : u.oneCell' = true := by obtain ⟨_, _, rfl, _⟩ := hu.out; rfl
  refine wpApd appSh s x hgd ho h1 hs ⟨g, 0, none⟩ 1 c [u] hx rfl (fun j y hj => ?_) (fun y hy => by rw [List.mem_singleton.1 hy]; exact h1u) (by unfold maxLen; omega) (by omega) hZ fun v' w' k1 k2 => ?_
  · match j, hj with
    | 0, hj => rw [show y = u from (Option.some.inj hj).symm]; simpa [Addr.add] using hc
  · have k8 := K8.apd h1 k2
    refine h v' w' ⟨us ++ [u], by rw [List.length_append]; exact k1, fun j l hj => ?_⟩ (k2.below hZ fun g hg => (World.ownsRow.lt h1 g hg).1) k8 k2
    by_cases hlt : j < ls.length
    · rw [List.getElem?_append_left hlt] at hj
      obtain ⟨y, q1, q2⟩ := h2 j l hj
      exact ⟨y, by rw [List.getElem?_append_left (by omega)]; exact q1, q2.k8 k8⟩
    · have hj2 := (List.getElem?_eq_some_iff.1 hj).1
      rw [List.length_append, List.length_singleton] at hj2
      obtain rfl : j = ls.length := by omega
      rw [List.getElem?_append_right (Nat.le_refl _), Nat.sub_self] at hj
      obtain rfl : b = l := by simpa using hj
      exact ⟨u, by rw [List.getElem?_append_right (by omega), hl, Nat.sub_self]; rfl, hu.k8 k8⟩
theorem slt_blk {w w' : World} {g : Nat} (y : Bk) (hg : g = w.heap.size) (k : Ex (w.alloc (.cells (rowB 64 (bkF y)) 75)) w') : SlT w' (.slice (some ⟨g, 0, none⟩) 64 64) (blkL y) := by
  subst hg
  have hb := ex_block k (heap_alloc_new w _)
  have hl := blkL_len y
  refine ⟨_, 64, by rw [hl], by rw [hl]; omega, by decide, (fun e => by cases e), SlB.mk' (Array.getElem?_eq_some_iff.1 hb).1 fun j hj => ?_⟩
  rw [hl] at hj
  rw [cell_of_row w' w.heap.size (0 + j) _ _ _ hb, rowB_get, if_pos (by omega), Nat.zero_add]
  unfold gF
  rw [blkL_get]
theorem flat_blkL_len (l : List Bk) : (l.flatMap blkL).length = 64 * l.length := by
  induction l with
  | nil => rfl
  | cons b r ih => rw [List.flatMap_cons, List.length_append, ih, blkL_len, List.length_cons]; omega
theorem TyB.mid {w : World} {g off m c i n c2 : Nat} {l : By} (h : TyB w (.slice (some ⟨g, off, none⟩) m c) l) (hin : i + n ≤ l.length) (h1 : n ≤ c2) (h2 : c2 ≤ maxLen) : TyB w (.slice (some ⟨g, off + i, none⟩) n c2) ((l.drop i).take n) := by
  have e : ((l.drop i).take n).length = n := by rw [List.length_take, List.length_drop]; omega
  obtain ⟨a', c', hv, _, _, _, h4⟩ := h.out
  obtain ⟨ha, _, _⟩ := Value.slice.inj hv
  refine ⟨_, c2, by rw [e], by rw [e]; exact h1, h2, (fun e => by cases e), ?_⟩
  rcases h4 with h0 | ⟨g', off', cs, fr, e2, hb, hc⟩
  · left
    rw [h0]; simp
  · rw [← ha] at e2
    cases e2
    refine Or.inr ⟨g, off + i, cs, fr, rfl, hb, fun j hj => ?_⟩
    rw [e] at hj
    rw [Nat.add_assoc, hc (i + j) (by omega)]
    unfold gF
    rw [List.getD_eq_getElem?_getD, List.getD_eq_getElem?_getD, List.getElem?_take_of_lt hj, List.getElem?_drop]
theorem TyB.zero (w : World) (a : Option Addr) : TyB w (.slice a 0 0) [] := ⟨a, 0, rfl, by simp, by decide, fun _ => rfl, Or.inl rfl⟩
def PostWh (w : World) (r : Option (List By)) (e : Ending) (w' : World) : Prop := ∃ u b, e = .returned (.tuple #[u, .bool b]) ∧ (∃ X, w' = wx w X) ∧ b = r.isSome ∧ ShO w' w.heap.size u (r.getD [])
set_option maxHeartbeats 1000000 in
theorem whole_any {w : World} (l : List Bk) (v : Value) (hs : SlV1 KK 64 w v l) (hl : l.length ≤ 1000) : Calls Tryd.prog 43 #[v] w (PostWh w (wholeW l)) := by
  have HS0 := Lib.hid hs
  obtain ⟨a0, c0, rfl, _, _, _, _⟩ := hs.out
  clear hs
  go_enter Tryd.func43, Tryd.ntmps43
  go_wp2
  go_loopw [0, 2] (fun v0 vo W => ∃ (r : List Bk) (outs : List By), r.length ≤ l.length ∧ outs.length ≤ l.length ∧ Hid (wholeW l = (wholeW r).map (outs ++ ·)) ∧ Hid (SlV1 KK 64 w v0 r) ∧ Hid (ShO W w.heap.size vo outs) ∧ outs.length + r.length ≤ l.length ∧ Ex w W ∧ (∃ a c, v0 = .slice a r.length c)) (fun v0 _ _ => match v0 with | .slice _ n _ => n | _ => 0)
  case atStart => exact ⟨l, [], Nat.le_refl _, by simp, Lib.hid (by cases wholeW l <;> rfl), HS0, Lib.hid (ShO.nil _ _), by simp, (by (try show Ex _ _); with_reducible repeat (first | exact ex_refl _ | assumption | refine ex_drewL ?_ | refine ex_appR ?_ _ | refine ex_wx ?_ _ | refine ex_drew ?_ | refine ex_alloc ?_ _)), ⟨_, _, rfl⟩⟩
  case round =>
    obtain ⟨r, outs, hrl, hol, HW, HV, HO, hsum, hw, av, cv, rfl⟩ := hrel
    obtain ⟨w1, rfl⟩ : ∃ w1, w1 = wr := ⟨_, rfl⟩
    obtain ⟨av', cv', hv', s1, s2, s3, s4⟩ := HV.out.out
    obtain ⟨rfl, _, rfl⟩ := Value.slice.inj hv'
    clear hv'
    unfold maxLen at s2
    cases r with
    | nil =>
      have hfin : Hid (PostWh w (wholeW l) (.returned (.tuple #[u2, .bool true])) w1) := Lib.hid ⟨u2, true, rfl, hw, by rw [HW.out]; rfl, by rw [HW.out]; show ShO w1 _ u2 (outs ++ []); rw [List.append_nil]; exact HO.out⟩
      clear HW HV HO s3 s4
      rw [List.length_nil] at *
      go_wp2
      go_ret2
      exact hfin.out
    | cons x r' =>
      have hx4 : num4 (((blkL x).take 4).drop 0) = num4 (blkL x) := num4_take _ _ _ (by omega)
      have hwc := wholeW_cons x r'
      have hn32 := num4_lt (blkL x)
      obtain ⟨n, hn⟩ : ∃ n, num4 (blkL x) = n := ⟨_, rfl⟩
      rw [hn] at hx4 hwc hn32
      obtain ⟨R, hR⟩ : ∃ R, (x :: r').length = R := ⟨_, rfl⟩
      have hR1 : R = r'.length + 1 := by rw [← hR]; rfl
      obtain ⟨g, off, rfl, hg, hcell⟩ := s4.pos (by simp)
      have hl4 : ((blkL x).take 4).length = 4 := by rw [List.length_take, blkL_len]; rfl
      have HS4 : Hid (SlT w1 (.slice (some ⟨g, off, none⟩) 4 64) ((blkL x).take 4)) := Lib.hid (SlT.ex (w := w) ⟨_, 64, by rw [hl4], by rw [hl4]; omega, by decide, (fun e => by cases e), SlB.mk' hg fun j hj => by
        rw [hl4] at hj
        have := (cellsN_some.1 (hcell 0 x rfl)).2 j (by omega)
        rw [KK_back, rowB_get, if_pos (by omega), Nat.zero_mul, Nat.add_zero] at this
        rw [this]
        unfold gF
        rw [List.getD_eq_getElem?_getD, List.getElem?_take_of_lt hj, ← blkL_get, List.getD_eq_getElem?_getD]⟩ hw)
      have Hx4 := Lib.hid hx4
      have Hwc := Lib.hid hwc
      have Hl4 := Lib.hid hl4
      rw [hR] at hrl hsum s1 HV
      have HR := Lib.hid hR
      have HSc : Hid (∀ w', Calls Tryd.prog 10 #[I n] w' (Post w' (I (secI n)))) := Lib.hid fun w' => sectors_any n (by omega) (by omega) w'
      have hfz : Hid (∀ W', wholeW l = none → Ex w W' → PostWh w (wholeW l) (.returned (.tuple #[.slice none 0 0, .bool false])) W') := Lib.hid fun W' h0 k => by rw [h0]; exact ⟨_, false, rfl, k, rfl, ShO.nil _ _⟩
      have hRp : (0 : Int) < R := by omega
      have hRc : (R : Int) ≤ cv := by omega
      rw [hR]
      clear hx4 hwc hl4 hcell s3 s4 hR hn
      by_cases hA : 50000 < n
      · have hno : wholeW l = none := by rw [HW.out, Hwc.out, if_pos (Or.inl hA)]; rfl
        have Hno := Lib.hid hno
        have t1 : decide ((50000 : Int) < n) = true := decide_eq_true (by omega)
        clear hno HW HO HV
        go_wp2_with (first | (go_at_call 67; (refine (read0_new (l := (blkL x).take 4) (ex_refl _) HS4.out (by rw [Hl4.out]; omega)).mono ?_); rintro e w2 ⟨q, rfl, H, kq⟩; replace H := Lib.hid H; clear kq) | (go_at_call 68; (refine (u32x_any (k := 0) H.out (by rw [Hl4.out]; omega) Hx4.out).mono ?_); clear H; rintro e w3 ⟨rfl, H⟩; replace H := ex_trans hw H.ex))
        go_ret2
        exact hfz.out _ Hno.out (by (try show Ex _ _); with_reducible repeat (first | exact ex_refl _ | assumption | refine ex_drewL ?_ | refine ex_appR ?_ _ | refine ex_wx ?_ _ | refine ex_drew ?_ | refine ex_alloc ?_ _))
      · have t1 : decide ((50000 : Int) < n) = false := decide_eq_false (by omega)
        have hk0 := secI_nat (n := n) (by omega)
        rw [hk0] at HSc
        obtain ⟨k, hk⟩ : ∃ k, secs n = k := ⟨_, rfl⟩
        have hk1 : 1 ≤ k ∧ k ≤ 1000 := by rw [← hk]; unfold secs; omega
        have hfit : 4 + n ≤ 64 * k := by rw [← hk]; exact secs_fit n
        rw [hk] at HSc Hwc
        have Hk := Lib.hid hk
        obtain ⟨hk1, hk2⟩ := hk1
        clear hk0 hk
        by_cases hB : R < k
        · have hno : wholeW l = none := by rw [HW.out, Hwc.out, if_pos (Or.inr (by omega))]; rfl
          have Hno := Lib.hid hno
          have t2 : decide ((R : Int) < k) = true := decide_eq_true (by omega)
          clear hno HW HO HV
          go_wp2_with (first | (go_at_call 67; (refine (read0_new (l := (blkL x).take 4) (ex_refl _) HS4.out (by rw [Hl4.out]; omega)).mono ?_); rintro e w2 ⟨q, rfl, H, kq⟩; replace H := Lib.hid H; clear kq) | (go_at_call 68; (refine (u32x_any (k := 0) H.out (by rw [Hl4.out]; omega) Hx4.out).mono ?_); clear H; rintro e w3 ⟨rfl, H⟩; replace H := ex_trans hw H.ex) | (go_at_call 10; (with_reducible refine (HSc.out _).mono ?_); rintro e w4 ⟨rfl, X4, rfl⟩))
          go_ret2
          exact hfz.out _ Hno.out (by (try show Ex _ _); with_reducible repeat (first | exact ex_refl _ | assumption | refine ex_drewL ?_ | refine ex_appR ?_ _ | refine ex_wx ?_ _ | refine ex_drew ?_ | refine ex_alloc ?_ _))
        · have t2 : decide ((R : Int) < k) = false := decide_eq_false (by omega)
          have hkR : (k : Int) ≤ R := by omega
          have hkc : (k : Int) ≤ cv := by omega
          obtain ⟨xs, hxs⟩ : ∃ xs, (x :: r').take k = xs := ⟨_, rfl⟩
          have hxl : xs.length = k := by rw [← hxs, List.length_take, HR.out]; omega
          have HVk : Hid (SlV1 KK 64 w (.slice (some ⟨g, off, none⟩) k cv) xs) := Lib.hid (by rw [← hxs]; exact SlV1.cut HV.out (by rw [HR.out]; omega))
          rw [if_neg (by omega), hxs] at Hwc
          have Hxs := Lib.hid hxs
          have Hxl := Lib.hid hxl
          clear hxs hxl
          go_wp2_with (first | (go_at_call 67; (refine (read0_new (l := (blkL x).take 4) (ex_refl _) HS4.out (by rw [Hl4.out]; omega)).mono ?_); rintro e w2 ⟨q, rfl, H, kq⟩; replace H := Lib.hid H; clear kq) | (go_at_call 68; (refine (u32x_any (k := 0) H.out (by rw [Hl4.out]; omega) Hx4.out).mono ?_); clear H; rintro e w3 ⟨rfl, H⟩; replace H := H.ex) | (go_at_call 10; (with_reducible refine (HSc.out _).mono ?_); rintro e w4 ⟨rfl, X4, rfl⟩))
          refine wp_worldW fun C hC => ?_
          have kC : Ex w1 C := by rw [← hC]; exact (by (try show Ex _ _); with_reducible repeat (first | exact ex_refl _ | assumption | refine ex_drewL ?_ | refine ex_appR ?_ _ | refine ex_wx ?_ _ | refine ex_drew ?_ | refine ex_alloc ?_ _))
          have kwC := ex_trans hw kC
          clear hC
          have zC := ex_size kwC
          clear HS4 Hx4 Hl4 HSc t1 t2 hB
          go_loopw [6, 34] (fun vb i W => ∃ j : Nat, j ≤ k ∧ i = I j ∧ Hid (OwnW W C.heap.size vb ((xs.take j).flatMap blkL)) ∧ Ex C W) (fun _ i _ => k - (intOf i).toNat)
          case atStart => exact ⟨0, by omega, rfl, Lib.hid (by rw [List.take_zero]; exact owns_nil _ _ _ _), (by (try show Ex _ _); with_reducible repeat (first | exact ex_refl _ | assumption | refine ex_drewL ?_ | refine ex_appR ?_ _ | refine ex_wx ?_ _ | refine ex_drew ?_ | refine ex_alloc ?_ _))⟩
          case round =>
            obtain ⟨j, hj, rfl, HB, hCw⟩ := hrel
            have kww := ex_trans kwC hCw
            have hzw := ex_size hCw
            by_cases hlt : j < k
            · obtain ⟨y, hy⟩ : ∃ y, xs[j]? = some y := ⟨_, List.getElem?_eq_getElem (by rw [Hxl.out]; exact hlt)⟩
              have hcell : cellsN wr g (off + j * 64) 64 = some (rowB 64 (bkF y)) := by
                obtain ⟨a', c', hv', _, _, _, q4⟩ := (HVk.out.ex kww).out
                obtain ⟨ha, _, _⟩ := Value.slice.inj hv'
                rw [← ha] at q4
                have := (SlR.at q4 hy).1
                rw [KK_back] at this; exact this
              have hy2 : (xs.take (j + 1)).flatMap blkL = (xs.take j).flatMap blkL ++ blkL y := by
                rw [List.take_add_one, hy, List.flatMap_append]; simp
              have hlj : ((xs.take j).flatMap blkL).length = 64 * j := by rw [flat_blkL_len, List.length_take, Hxl.out]; congr 1; omega
              have Hy2 := Lib.hid hy2
              have Hlj := Lib.hid hlj
              have hjk : (j : Int) < k := by omega
              have Hyl := Lib.hid (blkL_len y)
              clear hy hy2 hlj
              go_wp2_with (at_builtin; refine wpAppW (Z := C.heap.size) _ _ rfl rfl (HB.out.ex (by (try show Ex _ _); with_reducible repeat (first | exact ex_refl _ | assumption | refine ex_drewL ?_ | refine ex_appR ?_ _ | refine ex_wx ?_ _ | refine ex_drew ?_ | refine ex_alloc ?_ _))) rfl rfl (slt_blk (w := wr) y rfl (by (try show Ex _ _); with_reducible repeat (first | exact ex_refl _ | assumption | refine ex_drewL ?_ | refine ex_appR ?_ _ | refine ex_wx ?_ _ | refine ex_drew ?_ | refine ex_alloc ?_ _))) (by rw [Hlj.out, Hyl.out]; omega) (by simp [go_sem] <;> omega) (fun v1 w8 hown hA => ?_); obtain ⟨X5, rfl⟩ := exOf (A := C) (by (try show Ex _ _); with_reducible repeat (first | exact ex_refl _ | assumption | refine ex_drewL ?_ | refine ex_appR ?_ _ | refine ex_wx ?_ _ | refine ex_drew ?_ | refine ex_alloc ?_ _)) hA)
              exact ⟨⟨j + 1, by omega, by go_num, Lib.hid (by rw [Hy2.out]; exact hown), (by (try show Ex _ _); with_reducible repeat (first | exact ex_refl _ | assumption | refine ex_drewL ?_ | refine ex_appR ?_ _ | refine ex_wx ?_ _ | refine ex_drew ?_ | refine ex_alloc ?_ _))⟩, by simp [intOf]; omega⟩
            · obtain rfl : j = k := by omega
              have hB := HB.out
              rw [List.take_of_length_le (Nat.le_of_eq Hxl.out)] at hB
              obtain ⟨gb, cb, rfl, hb1, hb2, _, hb4, hb5⟩ := own_cellsW hB (show _ = 64 * j by rw [flat_blkL_len, Hxl.out]) (by omega)
              have hT0 := hB.tyb
              obtain ⟨data, hdata⟩ : ∃ data, ((xs.flatMap blkL).drop 4).take n = data := ⟨_, rfl⟩
              have hdl : data.length = n := by rw [← hdata, List.length_take, List.length_drop, flat_blkL_len, Hxl.out]; omega
              rw [hdata] at Hwc
              obtain ⟨bv, hbv, hTd⟩ : ∃ bv, bv = (if n = 0 then Value.slice (some ⟨gb, 0, none⟩) 0 0 else .slice (some ⟨gb, 4, none⟩) n n) ∧ TyB wr bv data := by
                refine ⟨_, rfl, ?_⟩
                split
                · rename_i h0
                  rw [List.eq_nil_of_length_eq_zero (hdl.trans h0)]; exact TyB.zero _ _
                · rw [← hdata]
                  exact TyB.mid hT0 (by rw [flat_blkL_len, Hxl.out]; omega) (Nat.le_refl _) (by unfold maxLen; omega)
              obtain ⟨sb, hsb⟩ : ∃ sb, sheetB data = sb := ⟨_, rfl⟩
              have hsl : sb.length = j := by rw [← hsb, sheetB_len, hdl, Hk.out]
              rw [hsb] at Hwc
              have HSh : Hid (∀ w', Ex wr w' → Calls Tryd.prog 38 #[bv] w' (fun e w2 => ∃ v', e = .returned v' ∧ w2.ownsRow w'.heap.size 75 64 v' j (sb.flatMap KK) ∧ ∃ X, w2 = wx w' X)) := Lib.hid fun w' k9 => by
                have := sheet_any (hTd.slt.ex k9) (by rw [hdl]; omega)
                rw [hsb, hsl] at this; exact this
              have HTd := Lib.hid hTd
              have Hsl := Lib.hid hsl
              have Hdl := Lib.hid hdl
              have u1 : (4 + (n : Int)) ≤ cb := by omega
              clear hB HB hT0 hdata hsb hsl hdl hTd hlt hj kww
              have kwr := ex_trans kwC hCw
              by_cases hsx : sb = xs
              · have t9 : decide (sb = xs) = true := decide_eq_true hsx
                have hwl : wholeW l = (wholeW ((x :: r').drop j)).map ((outs ++ [data]) ++ ·) := by
                  rw [HW.out, Hwc.out, if_pos hsx, Option.map_map]
                  congr 1
                  funext z
                  simp
                have Hwl := Lib.hid hwl
                have hdr : ((x :: r').drop j).length = R - j := by rw [List.length_drop, HR.out]
                have Hdr := Lib.hid hdr
                have HVd : Hid (cv ≠ j → SlV1 KK 64 w (.slice (some ⟨g, off + j * 64, none⟩) (R - j) (cv - j)) ((x :: r').drop j)) := Lib.hid fun _ => SlV1.off HV.out (by rw [HR.out]; omega)
                have hOw := Lib.hid (HO.out.ex (ex_trans kC hCw))
                obtain ⟨oa, oc, rfl, hoc⟩ := HO.out.form
                clear hwl hdr hsx HO Hwc HW
                have hzwr := ex_size kwr
                by_cases hcj : cv = j
                · have hRj := Lib.hid (show r'.length + 1 = j by omega)
                  have hcj' := hcj.symm
                  subst hcj'
                  clear hcj
                  by_cases hn0 : n = 0
                  · rw [if_pos hn0] at hbv
                    subst hbv
                    go_wp2_with (first | (go_at_call 38; (with_reducible refine (HSh.out _ (by (try show Ex _ _); with_reducible repeat (first | exact ex_refl _ | assumption | refine ex_drewL ?_ | refine ex_appR ?_ _ | refine ex_wx ?_ _ | refine ex_drew ?_ | refine ex_alloc ?_ _))).mono ?_); rintro e w5 ⟨vs, rfl, hvs, X5, rfl⟩; obtain ⟨sa, sc, rfl, _⟩ := own_form9 hvs; have HVs := Lib.hid (SlV1.of_own KK_len (by omega) (by rw [Hsl.out]; exact hvs)); clear hvs) | (go_at_call 70; (refine (eqBk_any sb xs _ _ _ (HVs.out.ex (by (try show Ex _ _); with_reducible repeat (first | exact ex_refl _ | assumption | refine ex_drewL ?_ | refine ex_appR ?_ _ | refine ex_wx ?_ _ | refine ex_drew ?_ | refine ex_alloc ?_ _))) (HVk.out.ex (by (try show Ex _ _); with_reducible repeat (first | exact ex_refl _ | assumption | refine ex_drewL ?_ | refine ex_appR ?_ _ | refine ex_wx ?_ _ | refine ex_drew ?_ | refine ex_alloc ?_ _))) (by rw [Hsl.out]; omega) (by rw [Hxl.out]; omega)).mono ?_); rintro e w6 ⟨rfl, X6, rfl⟩))
                    refine wp_region_seqA (w) [(0, true), (1, true), (4, true), (5, true), (6, true), (7, true), (2, false), (3, false), (8, true), (9, true)] (by (try show Ex _ _); with_reducible repeat (first | exact ex_refl _ | assumption | refine ex_drewL ?_ | refine ex_appR ?_ _ | refine ex_wx ?_ _ | refine ex_drew ?_ | refine ex_alloc ?_ _)) (by kernel_rfl) (by kernel_rfl) (fun _ _ d _ _ h => by cases d <;> exact h) ?_
                    simp only [List.map_cons, List.map_nil, nth]
                    repeat (first | ((with_reducible refine wpSeq_look ?_); go_big_quiet_step (fail); (with_reducible refine wpQuiet_nil ?_)) | ((with_reducible refine wpSeq_effF ?_ ?_); (focus rfl); go_simp) | ((with_reducible refine wpSeq_eff ?_ ?_); (focus rfl); (try dsimp only); go_wp2_with ((at_builtin; refine wpAppO (Z := w.heap.size) (ls := outs) (b := data) _ _ rfl rfl (hOw.out.ex (by (try show Ex _ _); with_reducible repeat (first | exact ex_refl _ | assumption | refine ex_drewL ?_ | refine ex_appR ?_ _ | refine ex_wx ?_ _ | refine ex_drew ?_ | refine ex_alloc ?_ _))) rfl rfl (by simp [go_sem]) (HTd.out.ky (Ky.ex (by (try show Ex _ _); with_reducible repeat (first | exact ex_refl _ | assumption | refine ex_drewL ?_ | refine ex_appR ?_ _ | refine ex_wx ?_ _ | refine ex_drew ?_ | refine ex_alloc ?_ _)))) (by omega) (by simp [go_sem] <;> omega) (fun v9 w9 hS9 hB9 _ _ => ?_); obtain ⟨X9, rfl⟩ := exOf (A := w) (by (try show Ex _ _); with_reducible repeat (first | exact ex_refl _ | assumption | refine ex_drewL ?_ | refine ex_appR ?_ _ | refine ex_wx ?_ _ | refine ex_drew ?_ | refine ex_alloc ?_ _)) hB9; replace hS9 := Lib.hid hS9)); refine mixQ_mk (by (try show Ex _ _); with_reducible repeat (first | exact ex_refl _ | assumption | refine ex_drewL ?_ | refine ex_appR ?_ _ | refine ex_wx ?_ _ | refine ex_drew ?_ | refine ex_alloc ?_ _)) ?_))
                    refine wpSeq_nil ?_
                    go_wp2
                    refine ⟨⟨(x :: r').drop j, outs ++ [data], by rw [Hdr.out]; omega, by rw [List.length_append, List.length_singleton]; omega, Hwl, Lib.hid ?_, Lib.hid (ShO.ex hS9.out (by (try show Ex _ _); with_reducible repeat (first | exact ex_refl _ | assumption | refine ex_drewL ?_ | refine ex_appR ?_ _ | refine ex_wx ?_ _ | refine ex_drew ?_ | refine ex_alloc ?_ _))), by rw [Hdr.out, List.length_append, List.length_singleton]; omega, (by (try show Ex _ _); with_reducible repeat (first | exact ex_refl _ | assumption | refine ex_drewL ?_ | refine ex_appR ?_ _ | refine ex_wx ?_ _ | refine ex_drew ?_ | refine ex_alloc ?_ _)), ⟨_, _, by rw [Hdr.out, hR1]⟩⟩, by show r'.length + 1 - j < R; omega⟩
                    (have q9 : (x :: r').drop j = [] := List.eq_nil_of_length_eq_zero (by rw [Hdr.out]; have := hRj.out; omega); rw [q9]; exact ⟨_, _, by have := hRj.out; rw [this, Nat.sub_self]; rfl, by simp, Nat.zero_le _, (fun e => by cases e), SlR.nil _ _ _ _⟩)
                  · rw [if_neg hn0] at hbv
                    subst hbv
                    go_wp2_with (first | (go_at_call 38; (with_reducible refine (HSh.out _ (by (try show Ex _ _); with_reducible repeat (first | exact ex_refl _ | assumption | refine ex_drewL ?_ | refine ex_appR ?_ _ | refine ex_wx ?_ _ | refine ex_drew ?_ | refine ex_alloc ?_ _))).mono ?_); rintro e w5 ⟨vs, rfl, hvs, X5, rfl⟩; obtain ⟨sa, sc, rfl, _⟩ := own_form9 hvs; have HVs := Lib.hid (SlV1.of_own KK_len (by omega) (by rw [Hsl.out]; exact hvs)); clear hvs) | (go_at_call 70; (refine (eqBk_any sb xs _ _ _ (HVs.out.ex (by (try show Ex _ _); with_reducible repeat (first | exact ex_refl _ | assumption | refine ex_drewL ?_ | refine ex_appR ?_ _ | refine ex_wx ?_ _ | refine ex_drew ?_ | refine ex_alloc ?_ _))) (HVk.out.ex (by (try show Ex _ _); with_reducible repeat (first | exact ex_refl _ | assumption | refine ex_drewL ?_ | refine ex_appR ?_ _ | refine ex_wx ?_ _ | refine ex_drew ?_ | refine ex_alloc ?_ _))) (by rw [Hsl.out]; omega) (by rw [Hxl.out]; omega)).mono ?_); rintro e w6 ⟨rfl, X6, rfl⟩))
                    refine wp_region_seqA (w) [(0, true), (1, true), (4, true), (5, true), (6, true), (7, true), (2, false), (3, false), (8, true), (9, true)] (by (try show Ex _ _); with_reducible repeat (first | exact ex_refl _ | assumption | refine ex_drewL ?_ | refine ex_appR ?_ _ | refine ex_wx ?_ _ | refine ex_drew ?_ | refine ex_alloc ?_ _)) (by kernel_rfl) (by kernel_rfl) (fun _ _ d _ _ h => by cases d <;> exact h) ?_
                    simp only [List.map_cons, List.map_nil, nth]
                    repeat (first | ((with_reducible refine wpSeq_look ?_); go_big_quiet_step (fail); (with_reducible refine wpQuiet_nil ?_)) | ((with_reducible refine wpSeq_effF ?_ ?_); (focus rfl); go_simp) | ((with_reducible refine wpSeq_eff ?_ ?_); (focus rfl); (try dsimp only); go_wp2_with ((at_builtin; refine wpAppO (Z := w.heap.size) (ls := outs) (b := data) _ _ rfl rfl (hOw.out.ex (by (try show Ex _ _); with_reducible repeat (first | exact ex_refl _ | assumption | refine ex_drewL ?_ | refine ex_appR ?_ _ | refine ex_wx ?_ _ | refine ex_drew ?_ | refine ex_alloc ?_ _))) rfl rfl (by simp [go_sem]) (HTd.out.ky (Ky.ex (by (try show Ex _ _); with_reducible repeat (first | exact ex_refl _ | assumption | refine ex_drewL ?_ | refine ex_appR ?_ _ | refine ex_wx ?_ _ | refine ex_drew ?_ | refine ex_alloc ?_ _)))) (by omega) (by simp [go_sem] <;> omega) (fun v9 w9 hS9 hB9 _ _ => ?_); obtain ⟨X9, rfl⟩ := exOf (A := w) (by (try show Ex _ _); with_reducible repeat (first | exact ex_refl _ | assumption | refine ex_drewL ?_ | refine ex_appR ?_ _ | refine ex_wx ?_ _ | refine ex_drew ?_ | refine ex_alloc ?_ _)) hB9; replace hS9 := Lib.hid hS9)); refine mixQ_mk (by (try show Ex _ _); with_reducible repeat (first | exact ex_refl _ | assumption | refine ex_drewL ?_ | refine ex_appR ?_ _ | refine ex_wx ?_ _ | refine ex_drew ?_ | refine ex_alloc ?_ _)) ?_))
                    refine wpSeq_nil ?_
                    go_wp2
                    refine ⟨⟨(x :: r').drop j, outs ++ [data], by rw [Hdr.out]; omega, by rw [List.length_append, List.length_singleton]; omega, Hwl, Lib.hid ?_, Lib.hid (ShO.ex hS9.out (by (try show Ex _ _); with_reducible repeat (first | exact ex_refl _ | assumption | refine ex_drewL ?_ | refine ex_appR ?_ _ | refine ex_wx ?_ _ | refine ex_drew ?_ | refine ex_alloc ?_ _))), by rw [Hdr.out, List.length_append, List.length_singleton]; omega, (by (try show Ex _ _); with_reducible repeat (first | exact ex_refl _ | assumption | refine ex_drewL ?_ | refine ex_appR ?_ _ | refine ex_wx ?_ _ | refine ex_drew ?_ | refine ex_alloc ?_ _)), ⟨_, _, by rw [Hdr.out, hR1]⟩⟩, by show r'.length + 1 - j < R; omega⟩
                    (have q9 : (x :: r').drop j = [] := List.eq_nil_of_length_eq_zero (by rw [Hdr.out]; have := hRj.out; omega); rw [q9]; exact ⟨_, _, by have := hRj.out; rw [this, Nat.sub_self]; rfl, by simp, Nat.zero_le _, (fun e => by cases e), SlR.nil _ _ _ _⟩)
                · have hcj2 : ¬ (cv : Int) = j := by omega
                  by_cases hn0 : n = 0
                  · rw [if_pos hn0] at hbv
                    subst hbv
                    go_wp2_with (first | (go_at_call 38; (with_reducible refine (HSh.out _ (by (try show Ex _ _); with_reducible repeat (first | exact ex_refl _ | assumption | refine ex_drewL ?_ | refine ex_appR ?_ _ | refine ex_wx ?_ _ | refine ex_drew ?_ | refine ex_alloc ?_ _))).mono ?_); rintro e w5 ⟨vs, rfl, hvs, X5, rfl⟩; obtain ⟨sa, sc, rfl, _⟩ := own_form9 hvs; have HVs := Lib.hid (SlV1.of_own KK_len (by omega) (by rw [Hsl.out]; exact hvs)); clear hvs) | (go_at_call 70; (refine (eqBk_any sb xs _ _ _ (HVs.out.ex (by (try show Ex _ _); with_reducible repeat (first | exact ex_refl _ | assumption | refine ex_drewL ?_ | refine ex_appR ?_ _ | refine ex_wx ?_ _ | refine ex_drew ?_ | refine ex_alloc ?_ _))) (HVk.out.ex (by (try show Ex _ _); with_reducible repeat (first | exact ex_refl _ | assumption | refine ex_drewL ?_ | refine ex_appR ?_ _ | refine ex_wx ?_ _ | refine ex_drew ?_ | refine ex_alloc ?_ _))) (by rw [Hsl.out]; omega) (by rw [Hxl.out]; omega)).mono ?_); rintro e w6 ⟨rfl, X6, rfl⟩))
                    refine wp_region_seqA (w) [(0, true), (1, true), (4, true), (5, true), (6, true), (7, true), (2, false), (3, false), (8, true), (9, true)] (by (try show Ex _ _); with_reducible repeat (first | exact ex_refl _ | assumption | refine ex_drewL ?_ | refine ex_appR ?_ _ | refine ex_wx ?_ _ | refine ex_drew ?_ | refine ex_alloc ?_ _)) (by kernel_rfl) (by kernel_rfl) (fun _ _ d _ _ h => by cases d <;> exact h) ?_
                    simp only [List.map_cons, List.map_nil, nth]
                    repeat (first | ((with_reducible refine wpSeq_look ?_); go_big_quiet_step (fail); (with_reducible refine wpQuiet_nil ?_)) | ((with_reducible refine wpSeq_effF ?_ ?_); (focus rfl); go_simp) | ((with_reducible refine wpSeq_eff ?_ ?_); (focus rfl); (try dsimp only); go_wp2_with ((at_builtin; refine wpAppO (Z := w.heap.size) (ls := outs) (b := data) _ _ rfl rfl (hOw.out.ex (by (try show Ex _ _); with_reducible repeat (first | exact ex_refl _ | assumption | refine ex_drewL ?_ | refine ex_appR ?_ _ | refine ex_wx ?_ _ | refine ex_drew ?_ | refine ex_alloc ?_ _))) rfl rfl (by simp [go_sem]) (HTd.out.ky (Ky.ex (by (try show Ex _ _); with_reducible repeat (first | exact ex_refl _ | assumption | refine ex_drewL ?_ | refine ex_appR ?_ _ | refine ex_wx ?_ _ | refine ex_drew ?_ | refine ex_alloc ?_ _)))) (by omega) (by simp [go_sem] <;> omega) (fun v9 w9 hS9 hB9 _ _ => ?_); obtain ⟨X9, rfl⟩ := exOf (A := w) (by (try show Ex _ _); with_reducible repeat (first | exact ex_refl _ | assumption | refine ex_drewL ?_ | refine ex_appR ?_ _ | refine ex_wx ?_ _ | refine ex_drew ?_ | refine ex_alloc ?_ _)) hB9; replace hS9 := Lib.hid hS9)); refine mixQ_mk (by (try show Ex _ _); with_reducible repeat (first | exact ex_refl _ | assumption | refine ex_drewL ?_ | refine ex_appR ?_ _ | refine ex_wx ?_ _ | refine ex_drew ?_ | refine ex_alloc ?_ _)) ?_))
                    refine wpSeq_nil ?_
                    go_wp2
                    refine ⟨⟨(x :: r').drop j, outs ++ [data], by rw [Hdr.out]; omega, by rw [List.length_append, List.length_singleton]; omega, Hwl, Lib.hid ?_, Lib.hid (ShO.ex hS9.out (by (try show Ex _ _); with_reducible repeat (first | exact ex_refl _ | assumption | refine ex_drewL ?_ | refine ex_appR ?_ _ | refine ex_wx ?_ _ | refine ex_drew ?_ | refine ex_alloc ?_ _))), by rw [Hdr.out, List.length_append, List.length_singleton]; omega, (by (try show Ex _ _); with_reducible repeat (first | exact ex_refl _ | assumption | refine ex_drewL ?_ | refine ex_appR ?_ _ | refine ex_wx ?_ _ | refine ex_drew ?_ | refine ex_alloc ?_ _)), ⟨_, _, by rw [Hdr.out, hR1]⟩⟩, by show r'.length + 1 - j < R; omega⟩
                    (have q9 := HVd.out hcj; rw [hR1] at q9; exact q9)
                  · rw [if_neg hn0] at hbv
                    subst hbv
                    go_wp2_with (first | (go_at_call 38; (with_reducible refine (HSh.out _ (by (try show Ex _ _); with_reducible repeat (first | exact ex_refl _ | assumption | refine ex_drewL ?_ | refine ex_appR ?_ _ | refine ex_wx ?_ _ | refine ex_drew ?_ | refine ex_alloc ?_ _))).mono ?_); rintro e w5 ⟨vs, rfl, hvs, X5, rfl⟩; obtain ⟨sa, sc, rfl, _⟩ := own_form9 hvs; have HVs := Lib.hid (SlV1.of_own KK_len (by omega) (by rw [Hsl.out]; exact hvs)); clear hvs) | (go_at_call 70; (refine (eqBk_any sb xs _ _ _ (HVs.out.ex (by (try show Ex _ _); with_reducible repeat (first | exact ex_refl _ | assumption | refine ex_drewL ?_ | refine ex_appR ?_ _ | refine ex_wx ?_ _ | refine ex_drew ?_ | refine ex_alloc ?_ _))) (HVk.out.ex (by (try show Ex _ _); with_reducible repeat (first | exact ex_refl _ | assumption | refine ex_drewL ?_ | refine ex_appR ?_ _ | refine ex_wx ?_ _ | refine ex_drew ?_ | refine ex_alloc ?_ _))) (by rw [Hsl.out]; omega) (by rw [Hxl.out]; omega)).mono ?_); rintro e w6 ⟨rfl, X6, rfl⟩))
                    refine wp_region_seqA (w) [(0, true), (1, true), (4, true), (5, true), (6, true), (7, true), (2, false), (3, false), (8, true), (9, true)] (by (try show Ex _ _); with_reducible repeat (first | exact ex_refl _ | assumption | refine ex_drewL ?_ | refine ex_appR ?_ _ | refine ex_wx ?_ _ | refine ex_drew ?_ | refine ex_alloc ?_ _)) (by kernel_rfl) (by kernel_rfl) (fun _ _ d _ _ h => by cases d <;> exact h) ?_
                    simp only [List.map_cons, List.map_nil, nth]
                    repeat (first | ((with_reducible refine wpSeq_look ?_); go_big_quiet_step (fail); (with_reducible refine wpQuiet_nil ?_)) | ((with_reducible refine wpSeq_effF ?_ ?_); (focus rfl); go_simp) | ((with_reducible refine wpSeq_eff ?_ ?_); (focus rfl); (try dsimp only); go_wp2_with ((at_builtin; refine wpAppO (Z := w.heap.size) (ls := outs) (b := data) _ _ rfl rfl (hOw.out.ex (by (try show Ex _ _); with_reducible repeat (first | exact ex_refl _ | assumption | refine ex_drewL ?_ | refine ex_appR ?_ _ | refine ex_wx ?_ _ | refine ex_drew ?_ | refine ex_alloc ?_ _))) rfl rfl (by simp [go_sem]) (HTd.out.ky (Ky.ex (by (try show Ex _ _); with_reducible repeat (first | exact ex_refl _ | assumption | refine ex_drewL ?_ | refine ex_appR ?_ _ | refine ex_wx ?_ _ | refine ex_drew ?_ | refine ex_alloc ?_ _)))) (by omega) (by simp [go_sem] <;> omega) (fun v9 w9 hS9 hB9 _ _ => ?_); obtain ⟨X9, rfl⟩ := exOf (A := w) (by (try show Ex _ _); with_reducible repeat (first | exact ex_refl _ | assumption | refine ex_drewL ?_ | refine ex_appR ?_ _ | refine ex_wx ?_ _ | refine ex_drew ?_ | refine ex_alloc ?_ _)) hB9; replace hS9 := Lib.hid hS9)); refine mixQ_mk (by (try show Ex _ _); with_reducible repeat (first | exact ex_refl _ | assumption | refine ex_drewL ?_ | refine ex_appR ?_ _ | refine ex_wx ?_ _ | refine ex_drew ?_ | refine ex_alloc ?_ _)) ?_))
                    refine wpSeq_nil ?_
                    go_wp2
                    refine ⟨⟨(x :: r').drop j, outs ++ [data], by rw [Hdr.out]; omega, by rw [List.length_append, List.length_singleton]; omega, Hwl, Lib.hid ?_, Lib.hid (ShO.ex hS9.out (by (try show Ex _ _); with_reducible repeat (first | exact ex_refl _ | assumption | refine ex_drewL ?_ | refine ex_appR ?_ _ | refine ex_wx ?_ _ | refine ex_drew ?_ | refine ex_alloc ?_ _))), by rw [Hdr.out, List.length_append, List.length_singleton]; omega, (by (try show Ex _ _); with_reducible repeat (first | exact ex_refl _ | assumption | refine ex_drewL ?_ | refine ex_appR ?_ _ | refine ex_wx ?_ _ | refine ex_drew ?_ | refine ex_alloc ?_ _)), ⟨_, _, by rw [Hdr.out, hR1]⟩⟩, by show r'.length + 1 - j < R; omega⟩
                    (have q9 := HVd.out hcj; rw [hR1] at q9; exact q9)
              · have t9 : decide (sb = xs) = false := decide_eq_false hsx
                have hno : wholeW l = none := by rw [HW.out, Hwc.out, if_neg hsx]; rfl
                have Hno := Lib.hid hno
                clear hno Hwc HW hsx
                by_cases hn0 : n = 0
                · rw [if_pos hn0] at hbv
                  subst hbv
                  go_wp2_with (first | (go_at_call 38; (with_reducible refine (HSh.out _ (by (try show Ex _ _); with_reducible repeat (first | exact ex_refl _ | assumption | refine ex_drewL ?_ | refine ex_appR ?_ _ | refine ex_wx ?_ _ | refine ex_drew ?_ | refine ex_alloc ?_ _))).mono ?_); rintro e w5 ⟨vs, rfl, hvs, X5, rfl⟩; obtain ⟨sa, sc, rfl, _⟩ := own_form9 hvs; have HVs := Lib.hid (SlV1.of_own KK_len (by omega) (by rw [Hsl.out]; exact hvs)); clear hvs) | (go_at_call 70; (refine (eqBk_any sb xs _ _ _ (HVs.out.ex (by (try show Ex _ _); with_reducible repeat (first | exact ex_refl _ | assumption | refine ex_drewL ?_ | refine ex_appR ?_ _ | refine ex_wx ?_ _ | refine ex_drew ?_ | refine ex_alloc ?_ _))) (HVk.out.ex (by (try show Ex _ _); with_reducible repeat (first | exact ex_refl _ | assumption | refine ex_drewL ?_ | refine ex_appR ?_ _ | refine ex_wx ?_ _ | refine ex_drew ?_ | refine ex_alloc ?_ _))) (by rw [Hsl.out]; omega) (by rw [Hxl.out]; omega)).mono ?_); rintro e w6 ⟨rfl, X6, rfl⟩))
                  go_ret2
                  exact hfz.out _ Hno.out (by (try show Ex _ _); with_reducible repeat (first | exact ex_refl _ | assumption | refine ex_drewL ?_ | refine ex_appR ?_ _ | refine ex_wx ?_ _ | refine ex_drew ?_ | refine ex_alloc ?_ _))
                · rw [if_neg hn0] at hbv
                  subst hbv
                  go_wp2_with (first | (go_at_call 38; (with_reducible refine (HSh.out _ (by (try show Ex _ _); with_reducible repeat (first | exact ex_refl _ | assumption | refine ex_drewL ?_ | refine ex_appR ?_ _ | refine ex_wx ?_ _ | refine ex_drew ?_ | refine ex_alloc ?_ _))).mono ?_); rintro e w5 ⟨vs, rfl, hvs, X5, rfl⟩; obtain ⟨sa, sc, rfl, _⟩ := own_form9 hvs; have HVs := Lib.hid (SlV1.of_own KK_len (by omega) (by rw [Hsl.out]; exact hvs)); clear hvs) | (go_at_call 70; (refine (eqBk_any sb xs _ _ _ (HVs.out.ex (by (try show Ex _ _); with_reducible repeat (first | exact ex_refl _ | assumption | refine ex_drewL ?_ | refine ex_appR ?_ _ | refine ex_wx ?_ _ | refine ex_drew ?_ | refine ex_alloc ?_ _))) (HVk.out.ex (by (try show Ex _ _); with_reducible repeat (first | exact ex_refl _ | assumption | refine ex_drewL ?_ | refine ex_appR ?_ _ | refine ex_wx ?_ _ | refine ex_drew ?_ | refine ex_alloc ?_ _))) (by rw [Hsl.out]; omega) (by rw [Hxl.out]; omega)).mono ?_); rintro e w6 ⟨rfl, X6, rfl⟩))
                  go_ret2
                  exact hfz.out _ Hno.out (by (try show Ex _ _); with_reducible repeat (first | exact ex_refl _ | assumption | refine ex_drewL ?_ | refine ex_appR ?_ _ | refine ex_wx ?_ _ | refine ex_drew ?_ | refine ex_alloc ?_ _))
end Go.Proofs.YtabjamkkhlbajaaDoor

/- The log: sectors that are read. -/
set_option linter.unusedSimpArgs false
set_option linter.unusedVariables false
set_option linter.unnecessarySimpa false
set_option maxRecDepth 20000
namespace Go.Proofs.YtabjamkkhlbajaaDoor
open Go.RowKit
theorem readsN_succ (d : Dk) (a : Int) (n : Nat) : readsN d a (n + 1) = if (readD d a).2.2 = 0 then
      ((readsN (readD d a).1 (a + 1) n).1, (if (readsN (readD d a).1 (a + 1) n).2.2 = 0 then (readD d a).2.1 :: (readsN (readD d a).1 (a + 1) n).2.1 else []), (readsN (readD d a).1 (a + 1) n).2.2)
    else ((readD d a).1, [], (readD d a).2.2) := rfl
theorem readsN_snoc : ∀ (k : Nat) (d : Dk) (a : Int), (readsN d a k).2.2 = 0 → readsN d a (k + 1) = if (readD (readsN d a k).1 (a + k)).2.2 = 0 then
      ((readD (readsN d a k).1 (a + k)).1, (readsN d a k).2.1 ++ [(readD (readsN d a k).1 (a + k)).2.1], 0) else ((readD (readsN d a k).1 (a + k)).1, [], (readD (readsN d a k).1 (a + k)).2.2)
  | 0, d, a, _ => by
    show (if (readD d a).2.2 = 0 then _ else _) = if (readD d (a + (0 : Nat))).2.2 = 0 then _ else _
    rw [show a + ((0 : Nat) : Int) = a by simp]
    rfl
  | k + 1, d, a, h => by
    rw [readsN_succ] at h
    by_cases h0 : (readD d a).2.2 = 0
    · rw [if_pos h0] at h
      have ih := readsN_snoc k (readD d a).1 (a + 1) h
      have e : a + 1 + (k : Int) = a + ((k + 1 : Nat) : Int) := by push_cast; omega
      rw [e] at ih
      have h : (readsN (readD d a).1 (a + 1) k).2.2 = 0 := h
      have e1 : readsN d a (k + 1) = ((readsN (readD d a).1 (a + 1) k).1, (readD d a).2.1 :: (readsN (readD d a).1 (a + 1) k).2.1, 0) := by
        rw [readsN_succ, if_pos h0, h, if_pos rfl]
      rw [readsN_succ d a (k + 1), if_pos h0, ih, e1]
      by_cases h1 : (readD (readsN (readD d a).1 (a + 1) k).1 (a + ((k + 1 : Nat) : Int))).2.2 = 0
      · rw [if_pos h1, if_pos h1, if_pos rfl]; rfl
      · rw [if_neg h1, if_neg h1, if_neg h1]
    · rw [if_neg h0] at h
      exact absurd h h0
theorem readsN_fail : ∀ (k n : Nat) (d : Dk) (a : Int), (readsN d a k).2.2 ≠ 0 → k ≤ n → readsN d a n = readsN d a k
  | 0, n, d, a, h, _ => absurd rfl h
  | k + 1, 0, d, a, h, hn => by omega
  | k + 1, n + 1, d, a, h, hn => by
    rw [readsN_succ] at h
    rw [readsN_succ, readsN_succ]
    by_cases h0 : (readD d a).2.2 = 0
    · rw [if_pos h0] at h
      rw [if_pos h0, if_pos h0, readsN_fail k n _ _ h (by omega)]
    · rw [if_neg h0, if_neg h0]
theorem read_ops (d : Dk) (i : Int) : (readD d i).1.ops ≤ d.ops + 1 ∧ (readD d i).1.has = d.has ∧ (readD d i).1.qu = d.qu := by
  have h := req_same d i false
  unfold readD
  split
  · exact ⟨by show (reqD d i false).1.ops + 1 ≤ _; rw [h.2.2]; omega, h.1, h.2.1⟩
  · exact ⟨by show (reqD d i false).1.ops ≤ _; rw [h.2.2]; omega, h.1, h.2.1⟩
theorem reads_ops : ∀ (n : Nat) (d : Dk) (a : Int), (readsN d a n).1.ops ≤ d.ops + n ∧ (readsN d a n).1.has = d.has ∧ (readsN d a n).1.qu = d.qu
  | 0, d, a => ⟨Nat.le_refl _, rfl, rfl⟩
  | n + 1, d, a => by
    have h1 := read_ops d a
    have h2 := reads_ops n (readD d a).1 (a + 1)
    rw [readsN_succ]
    split
    · exact ⟨by show (readsN (readD d a).1 (a + 1) n).1.ops ≤ _; omega, h2.2.1.trans h1.2.1, h2.2.2.trans h1.2.2⟩
    · exact ⟨by show (readD d a).1.ops ≤ _; omega, h1.2.1, h1.2.2⟩
theorem reads_len : ∀ (n : Nat) (d : Dk) (a : Int), (readsN d a n).2.2 = 0 → (readsN d a n).2.1.length = n
  | 0, d, a, _ => rfl
  | n + 1, d, a, h => by
    rw [readsN_succ] at h ⊢
    by_cases h0 : (readD d a).2.2 = 0
    · rw [if_pos h0] at h ⊢
      have h : (readsN (readD d a).1 (a + 1) n).2.2 = 0 := h
      show (if (readsN (readD d a).1 (a + 1) n).2.2 = 0 then _ else _ : List Bk).length = _
      rw [if_pos h, List.length_cons, reads_len n _ _ h]
    · rw [if_neg h0] at h
      exact absurd h h0
/-- What reading sectors leads to. -/
def PostRs (w : World) (L : Loc) (r : Dk × List Bk × Int) (e : Ending) (w' : World) : Prop :=
  ∃ v L', e = .returned (.tuple #[v, I r.2.2]) ∧ DkAt w' L' r.1 ∧ Dv L w L' w' ∧ w'.ownsRow w.heap.size 75 64 v r.2.1.length (r.2.1.flatMap KK) ∧ ∀ g, v.ownBlock = some g → ¬ L'.own g
theorem row_set {w : World} {b : Nat} {f g : Nat → UInt8} {t : TypeId} (h : w.heap[b]? = some (.cells (rowB 64 f) t (0, 0))) : cellsN (w.setCells b 0 (rowB 64 g).toList) b 0 64 = some (rowB 64 g) := by
  have h8 := setCells_block b t (0, 0) (rowB 64 g).toList 0 w _ h
  rw [spliceA_all _ _ (by simp), Array.toArray_toList] at h8
  exact (block_cellsF (n := 64) h8 (by simp)).1
theorem DkAt.setsO {w : World} {L : Loc} {d : Dk} (h : DkAt w L d) {b : Nat} (hb : ¬ L.own b) (o : Nat) (vs : List Value) : DkAt (w.setCells b o vs) L d := by
  obtain ⟨qv, hM⟩ := h.out
  exact ⟨qv, hM.keep fun x hx => setCells_heap _ _ _ _ _ fun e => hb (by rw [← e]; exact hx)⟩
theorem DkAt.apd {w w' : World} {L : Loc} {d : Dk} {v v' : Value} (h : DkAt w L d) (k : Apd w w' v v') (hv : ∀ g, v.ownBlock = some g → ¬ L.own g) : DkAt w' L d := by
  obtain ⟨qv, hM⟩ := h.out
  exact ⟨qv, hM.keep fun x hx => k.block x (hM.lt hx) fun e => hv x e hx⟩
theorem reads_step {w w4 w5 w6 : World} {L L2 : Loc} {d1 : Dk} {S B k : Nat} {u v1 : Value} {l : List Bk} {bk : Bk} (q1 : DkAt w4 L2 d1) (q2 : Dv L w L2 w4) (q3 : ∀ g, u.ownBlock = some g → ¬ L2.own g ∧ g < w4.heap.size ∧ g ≠ S) (q4 : ¬ L2.own S)
    (hS : w.heap.size ≤ S) (hl : l.length = k) (hown : w6.ownsRow B 75 64 v1 (k + 1) (l.flatMap KK ++ KK bk)) (k5 : Ex (w4.setCells S 0 (rowB 64 (bkF bk)).toList) w5) (hap : Apd w5 w6 u v1) (hB : ∀ g, u.ownBlock = some g → w.heap.size ≤ g) (hz : S ≤ w4.heap.size) :
    DkAt w6 L2 d1 ∧ Dv L w L2 w6 ∧ w6.ownsRow B 75 64 v1 (k + 1) ((l ++ [bk]).flatMap KK) ∧ ∀ g, v1.ownBlock = some g → ¬ L2.own g := by
  have r1 := (q1.setsO q4 0 (rowB 64 (bkF bk)).toList).ex k5
  refine ⟨r1.apd hap fun g hg => (q3 g hg).1, q2.frm (F := fun b => w.heap.size ≤ b) (Frm.apd (((Frm.refl _ _).sets (b := S) hS 0 _).trans (Frm.ex k5)) hap hB) (fun b hb => hb), ?_, fun g hg => ?_⟩
  · rw [List.flatMap_append, List.flatMap_cons, List.flatMap_nil, List.append_nil]; exact hown
  · rcases hap.own with e | ⟨g', e, h9⟩
    · rw [e] at hg; exact (q3 g hg).1
    · rw [e] at hg
      obtain rfl := Option.some.inj hg
      intro e2
      have := r1.lt e2
      omega
set_option maxHeartbeats 400000 in
theorem reads_any {w : World} {L : Loc} {d : Dk} (h : DkAt w L d) (at_ n : Nat) (hat : at_ ≤ 1000000) (hn : n ≤ 1000) (hops : d.ops + n < 1000000000) :
    Calls Tryd.prog 40 #[PT L.p, I at_, I n] w (PostRs w L (readsN d at_ n)) := by
  have HD0 := Lib.hid h
  clear h
  go_enter Tryd.func40, Tryd.ntmps40
  go_wp2
  go_loopw [6, 7, 11] (fun v e i W => ∃ (k : Nat) (L' : Loc), k ≤ n ∧ i = I k ∧ e = I 0 ∧ Hid ((readsN d at_ k).2.2 = 0 ∧ DkAt W L' (readsN d at_ k).1 ∧ Dv L w L' W ∧ W.ownsRow w.heap.size 75 64 v k ((readsN d at_ k).2.1.flatMap KK) ∧ ∀ g, v.ownBlock = some g → ¬ L'.own g)) (fun _ _ i _ => n - (intOf i).toNat)
  case atStart => exact ⟨0, L, by omega, rfl, rfl, Lib.hid ⟨rfl, HD0.out, Dv.refl _ _, World.ownsRow_nil _ _ _ _, fun g hg => by cases hg⟩⟩
  case round =>
    obtain ⟨k, L', hk, rfl, rfl, HI⟩ := hrel
    obtain ⟨h0, hD, hV, hO, hG⟩ := HI.out
    by_cases hlt : k < n
    · have hkn : (k : Int) < n := by omega
      have hops2 := (reads_ops k d at_).1
      have hsn := readsN_snoc k d at_ h0
      obtain ⟨dk, hdk⟩ : ∃ dk, (readsN d at_ k).1 = dk := ⟨_, rfl⟩
      rw [hdk] at hD hops2 hsn
      obtain ⟨r, hr⟩ : ∃ r, readD dk ((at_ : Int) + k) = r := ⟨_, rfl⟩
      have k1 : Ex wr (wr.alloc (.cells (rowB 64 fun _ => 0) 75)) := (by (try show Ex _ _); with_reducible repeat (first | exact ex_refl _ | assumption | refine ex_drewL ?_ | refine ex_appR ?_ _ | refine ex_wx ?_ _ | refine ex_drew ?_ | refine ex_alloc ?_ _))
      have b1 : (wr.alloc (.cells (rowB 64 fun _ => 0) 75)).heap[wr.heap.size]? = some (.cells (rowB 64 fun _ => 0) 75 (0, 0)) := heap_alloc_new _ _
      have hRd := read_any (hD.ex k1) ((at_ : Int) + k) (by omega) (by omega) (by omega)
      rw [hr, hV.pp] at hRd
      rw [hr] at hsn
      obtain ⟨l9, hl9⟩ : ∃ l9, (readsN d at_ k).2.1 = l9 := ⟨_, rfl⟩
      rw [hl9] at hO hsn
      have hRd2 : Hid (Calls Tryd.prog 66 #[PT L.p, I ((at_ : Int) + k)] (wr.alloc (.cells (rowB 64 fun _ => 0) 75)) fun e w' => ∃ L2, e = .returned (.tuple #[.agg (rowB 64 (bkF r.2.1)), I r.2.2]) ∧ Hid (DkAt w' L2 r.1 ∧ Dv L w L2 w' ∧ w'.heap[wr.heap.size]? = some (.cells (rowB 64 fun _ => 0) 75 (0, 0)) ∧ w'.ownsRow w.heap.size 75 64 u6 k (l9.flatMap KK) ∧ (∀ g, u6.ownBlock = some g → ¬ L2.own g ∧ g < w'.heap.size ∧ g ≠ wr.heap.size) ∧ ¬ L2.own wr.heap.size)) := Lib.hid (hRd.mono fun e w' hh => by
        obtain ⟨L2, rfl, q1, q2⟩ := hh
        have ns : ¬ L'.own wr.heap.size := fun e => by have := hD.lt e; omega
        have zs := (Array.getElem?_eq_some_iff.1 b1).1
        have hO1 := owns_ex hO k1
        have hlt9 : ∀ g, u6.ownBlock = some g → g < wr.heap.size := fun g hg => (World.ownsRow.lt hO g hg).2
        refine ⟨L2, rfl, Lib.hid ⟨q1, (hV.grow k1).trans q2, (q2.same _ zs ns).trans b1, owns_same hO1 fun g hg => q2.same g (by have := hlt9 g hg; omega) (hG g hg), fun g hg => ?_, q2.notown zs ns⟩⟩
        have h9 := hlt9 g hg
        exact ⟨q2.notown (by omega) (hG g hg), Nat.lt_of_lt_of_le (by omega) q2.size, by omega⟩)
      have Hsn := Lib.hid hsn
      have HO0 := Lib.hid hO
      have hsw := hV.size
      have Hl9 : Hid (l9.length = k) := Lib.hid (by rw [← hl9, reads_len k d at_ h0])
      obtain ⟨d1, bk, er⟩ := r
      dsimp only at hRd2
      clear hRd hsn hr hD hV hO hG HI b1 h0 hdk hops2 hl9 k1
      have hnS : Hid (∀ g, u6.ownBlock = some g → g ≠ wr.heap.size) := Lib.hid fun g hg => by
        have := World.ownsRow.lt HO0.out g hg
        omega
      by_cases he : er = 0
      · subst he
        go_wp2_with (first | (go_at_call 66; (with_reducible refine hRd2.out.mono ?_); rintro e w4 ⟨L2, rfl, hq⟩; have hb4 := hq.out.2.2.1; obtain ⟨n4, f4, z4⟩ := block_cellsF (n := 64) hb4 (by simp); have n5 := row_set (g := bkF bk) hb4; clear hb4) | (at_builtin; refine wpApd appBlk _ _ rfl rfl (owns_ex (owns_same hq.out.2.2.2.1 fun g hg => setCells_heap _ _ _ _ _ (hnS.out g hg)) (by (try show Ex _ _); with_reducible repeat (first | exact ex_refl _ | assumption | refine ex_drewL ?_ | refine ex_appR ?_ _ | refine ex_wx ?_ _ | refine ex_drew ?_ | refine ex_alloc ?_ _))) rfl ⟨_, 0, none⟩ 1 1 (KK bk) rfl (by rw [KK_len]) (news_alloc (w := w4.setCells wr.heap.size 0 (rowB 64 (bkF bk)).toList) (cs := rowB 64 (bkF bk)) (e := 75) (by simp [go_sem]) (by (try show Ex _ _); with_reducible repeat (first | exact ex_refl _ | assumption | refine ex_drewL ?_ | refine ex_appR ?_ _ | refine ex_wx ?_ _ | refine ex_drew ?_ | refine ex_alloc ?_ _))) (fun u hu => KK_one [bk] u (by simpa using hu)) (by unfold maxLen; omega) (by omega) (by simp [go_sem] <;> omega) (fun v1 w6 hown1 hap => ?_)))
        have hS := reads_step hq.out.1 hq.out.2.1 hq.out.2.2.2.2.1 hq.out.2.2.2.2.2 hsw Hl9.out hown1 (show Ex (w4.setCells wr.heap.size 0 (rowB 64 (bkF bk)).toList) _ from (by (try show Ex _ _); with_reducible repeat (first | exact ex_refl _ | assumption | refine ex_drewL ?_ | refine ex_appR ?_ _ | refine ex_wx ?_ _ | refine ex_drew ?_ | refine ex_alloc ?_ _))) hap (fun g hg => (World.ownsRow.lt HO0.out g hg).1) (Nat.le_of_lt z4)
        have e := Hsn.out
        simp only [if_true] at e
        exact ⟨⟨k + 1, L2, by omega, by go_num, rfl, Lib.hid (by rw [e]; exact ⟨rfl, hS⟩)⟩, by simp [intOf]; omega⟩
      · have he2 : (er == 0) = false := beq_eq_false_iff_ne.2 he
        have he3 : (er != 0) = true := by simp [he]
        go_wp2_with (go_at_call 66; (with_reducible refine hRd2.out.mono ?_); rintro e w4 ⟨L2, rfl, hq⟩; have hb4 := hq.out.2.2.1; obtain ⟨n4, f4, z4⟩ := block_cellsF (n := 64) hb4 (by simp); clear hb4)
        go_ret2
        have e := Hsn.out
        simp only [if_neg he] at e
        have hf := readsN_fail (k + 1) n d at_ (by rw [e]; exact he) (by omega)
        rw [hf, e]
        exact ⟨.slice none 0 0, L2, rfl, hq.out.1.setsO hq.out.2.2.2.2.2 0 _, (hq.out.2.1.frm (F := fun b => w.heap.size ≤ b) ((Frm.refl _ _).sets (b := wr.heap.size) (by omega) 0 _) fun b hb => hb), World.ownsRow_nil _ _ _ _, fun g hg => by cases hg⟩
    · obtain rfl : k = n := by omega
      have hfin : Hid (PostRs w L (readsN d at_ k) (.returned (.tuple #[u6, I 0])) wr) := Lib.hid ⟨u6, L', by rw [h0], hD, hV, by rw [reads_len k d at_ h0]; exact hO, hG⟩
      clear h0 hD hV hO hG HI hlt
      go_wp2
      go_ret2
      exact hfin.out
end Go.Proofs.YtabjamkkhlbajaaDoor

/- The log: its transactions, gone over. -/
set_option linter.unusedSimpArgs false
set_option linter.unusedVariables false
set_option linter.unnecessarySimpa false
set_option maxRecDepth 20000
namespace Go.Proofs.YtabjamkkhlbajaaDoor
open Go.RowKit
attribute [local go_sem] Oper.semAt_some
theorem SlSh.tail {w : World} {a : Option Addr} {c : Nat} {ls : List By} (h : SlSh w (.slice a ls.length c) ls) (h1 : 1 < ls.length) : ∃ g off, a = some ⟨g, off, none⟩ ∧ SlSh w (.slice (some ⟨g, off + 1, none⟩) (ls.length - 1) (ls.length - 1)) ls.tail := by
  obtain ⟨a', c', hv, q1, q2, _, h4⟩ := h.out
  obtain ⟨rfl, _, rfl⟩ := Value.slice.inj hv
  rcases h4 with rfl | ⟨g, off, cs, fr, rfl, hb, hc⟩
  · simp at h1
  · have hl : ls.tail.length = ls.length - 1 := List.length_tail
    refine ⟨g, off, rfl, ⟨_, ls.length - 1, by rw [hl], by omega, by omega, (fun e => by cases e), Or.inr ⟨g, off + 1, cs, fr, rfl, hb, fun j l hj => ?_⟩⟩⟩
    rw [List.getElem?_tail] at hj
    obtain ⟨u, q1, q2⟩ := hc (j + 1) l hj
    exact ⟨u, by rw [Nat.add_assoc, Nat.add_comm 1 j]; exact q1, q2⟩
/-- What All makes: a closure over its transactions. -/
def PostAl (w0 w : World) (ls : List By) (e : Ending) (w' : World) : Prop := ∃ bx sv, e = .returned (.func (.func 71) #[] #[PT bx]) ∧ (∃ X, w' = wx w X) ∧ w.heap.size ≤ bx ∧ w'.heap[bx]? = some (.cells #[sv] 30 (0, 0)) ∧ SlSh w0 sv ls
theorem allw_any {w0 w : World} {p : Nat} {L : Loc} {d : Dk} {wl : Wl} (h : LgM w0 p L d wl) (k0 : Ex w0 w) (h0 : 0 < wl.sh.length) : Calls Tryd.prog 44 #[PT p] w (PostAl w0 w wl.sh.tail) := by
  obtain ⟨sv, hp, hs⟩ := h.out
  replace hp := ex_block k0 hp
  have zp := (Array.getElem?_eq_some_iff.1 hp).1
  obtain ⟨a, c, rfl, h1, h2, _, _⟩ := hs.out
  have c10 := (block_cellF (o := 10) (v := .slice a wl.sh.length c) hp rfl).1
  obtain ⟨n, hn⟩ : ∃ n, wl.sh.length = n := ⟨_, rfl⟩
  have HS := Lib.hid hs
  have Hn := Lib.hid hn
  rw [hn] at h1 c10 h0
  unfold maxLen at h2
  clear h hp hs hn k0
  have h0i : (1 : Int) ≤ n := by omega
  by_cases hn1 : n = 1
  · subst hn1
    go_enter Tryd.func44, Tryd.ntmps44
    go_wp2
    refine wp_region_seqA (w) [(0, true), (1, true), (2, true), (3, true), (4, true), (5, true), (6, true), (7, true), (8, true), (9, true), (10, true), (11, true), (12, true), (13, true), (14, true), (15, false)] (by (try show Ex _ _); with_reducible repeat (first | exact ex_refl _ | assumption | refine ex_drewL ?_ | refine ex_appR ?_ _ | refine ex_wx ?_ _ | refine ex_drew ?_ | refine ex_alloc ?_ _)) (by kernel_rfl) (by kernel_rfl) (fun _ _ d _ _ h => by cases d <;> exact h) ?_
    simp only [List.map_cons, List.map_nil, nth]
    repeat (first | ((with_reducible refine wpSeq_look ?_); go_big_quiet_step (fail); (with_reducible refine wpQuiet_nil ?_)) | ((with_reducible refine wpSeq_effF ?_ ?_); (focus rfl); go_simp) | ((with_reducible refine wpSeq_eff ?_ ?_); (focus rfl); (try dsimp only); go_wp2_with (fail); refine mixQ_mk (by (try show Ex _ _); with_reducible repeat (first | exact ex_refl _ | assumption | refine ex_drewL ?_ | refine ex_appR ?_ _ | refine ex_wx ?_ _ | refine ex_drew ?_ | refine ex_alloc ?_ _)) ?_))
    refine wpSeq_nil ?_
    go_wp2
    go_ret
    refine ⟨_, _, rfl, (by (try show Ex _ _); with_reducible repeat (first | exact ex_refl _ | assumption | refine ex_drewL ?_ | refine ex_appR ?_ _ | refine ex_wx ?_ _ | refine ex_drew ?_ | refine ex_alloc ?_ _)), by simp [go_sem], ex_block (w := w.alloc (.cells _ 30)) (by (try show Ex _ _); with_reducible repeat (first | exact ex_refl _ | assumption | refine ex_drewL ?_ | refine ex_appR ?_ _ | refine ex_wx ?_ _ | refine ex_drew ?_ | refine ex_alloc ?_ _)) (heap_alloc_new _ _), ?_⟩
    rw [show wl.sh.tail = [] from List.eq_nil_of_length_eq_zero (by rw [List.length_tail, Hn.out])]
    exact ⟨_, 0, rfl, by simp, by decide, (fun _ => rfl), Or.inl rfl⟩
  · have hc1 : ¬ n = 1 := hn1
    obtain ⟨g, off, rfl, hT⟩ := HS.out.tail (by rw [Hn.out]; omega)
    rw [Hn.out] at hT
    have HT := Lib.hid hT
    clear hT
    go_enter Tryd.func44, Tryd.ntmps44
    go_wp2
    refine wp_region_seqA (w) [(0, true), (1, true), (2, true), (3, true), (4, true), (5, true), (6, true), (7, true), (8, true), (9, true), (10, true), (11, true), (12, true), (13, true), (14, true), (15, false)] (by (try show Ex _ _); with_reducible repeat (first | exact ex_refl _ | assumption | refine ex_drewL ?_ | refine ex_appR ?_ _ | refine ex_wx ?_ _ | refine ex_drew ?_ | refine ex_alloc ?_ _)) (by kernel_rfl) (by kernel_rfl) (fun _ _ d _ _ h => by cases d <;> exact h) ?_
    simp only [List.map_cons, List.map_nil, nth]
    repeat (first | ((with_reducible refine wpSeq_look ?_); go_big_quiet_step (fail); (with_reducible refine wpQuiet_nil ?_)) | ((with_reducible refine wpSeq_effF ?_ ?_); (focus rfl); go_simp) | ((with_reducible refine wpSeq_eff ?_ ?_); (focus rfl); (try dsimp only); go_wp2_with (fail); refine mixQ_mk (by (try show Ex _ _); with_reducible repeat (first | exact ex_refl _ | assumption | refine ex_drewL ?_ | refine ex_appR ?_ _ | refine ex_wx ?_ _ | refine ex_drew ?_ | refine ex_alloc ?_ _)) ?_))
    refine wpSeq_nil ?_
    go_wp2
    go_ret
    exact ⟨_, _, rfl, (by (try show Ex _ _); with_reducible repeat (first | exact ex_refl _ | assumption | refine ex_drewL ?_ | refine ex_appR ?_ _ | refine ex_wx ?_ _ | refine ex_drew ?_ | refine ex_alloc ?_ _)), by simp [go_sem], ex_block (w := w.alloc (.cells _ 30)) (by (try show Ex _ _); with_reducible repeat (first | exact ex_refl _ | assumption | refine ex_drewL ?_ | refine ex_appR ?_ _ | refine ex_wx ?_ _ | refine ex_drew ?_ | refine ex_alloc ?_ _)) (heap_alloc_new _ _), HT.out⟩
end Go.Proofs.YtabjamkkhlbajaaDoor

/- The log: what All's closure hands over. -/
set_option linter.unusedSimpArgs false
set_option linter.unusedVariables false
set_option linter.unnecessarySimpa false
set_option maxRecDepth 20000
namespace Go.Proofs.YtabjamkkhlbajaaDoor
open Go.RowKit
attribute [local go_sem] Oper.semAt_some
def encA (x : Nat × Value) : Array Value := #[I (1 + (x.1 : Int)), x.2]
def KpA (Z bd : Nat) (W W' : World) : Prop := KpQ Z bd W W' ∧ K8 W W'
def XA (ls : List By) (pre : List (Nat × Value)) (x : Nat × Value) (W : World) : Prop := x.1 = pre.length ∧ TyB W x.2 (ls.getD pre.length [])
def SA (ls : List By) (xs : List (Nat × Value)) (W : World) : Prop := xs.length = ls.length ∧ ∀ (j : Nat) (l : By), ls[j]? = some l → ∃ x, xs[j]? = some x ∧ TyB W x.2 l
theorem Bkp.ofEx' {B : Nat} {W W' : World} (h : Bkp B W W') (hB : W.heap.size ≤ B) : Ex W W' := ex_of_below ⟨h.os, h.tape, h.output, h.size, fun b hb => by
  have e := Array.getElem?_eq_getElem hb
  rw [h.same b _ e (Or.inr (by omega)), e]⟩
theorem Bkp.k8 {B : Nat} {W W' : World} (h : Bkp B W W') : K8 W W' := fun g cs fr hg => h.same g _ hg (Or.inl rfl)
set_option maxRecDepth 100000 in
set_option maxHeartbeats 1000000 in
theorem all1_hands (bx : Nat) (wz w : World) (sv : Value) (ls : List By) (hS : SlSh wz sv ls) (kz : Ex wz w) (hbx : w.heap[bx]? = some (.cells #[sv] 30 (0, 0))) (hls : ∀ b ∈ ls, b.length ≤ 50000) (hn : ls.length ≤ 1000) :
    Hands 2 Tryd.prog 71 #[PT bx] encA (KpA wz.heap.size bx) (XA ls) (SA ls) ls.length w.heap.size w := fun l J W hW hJ hY h0 => by
  have hb := hW.same bx _ hbx (Or.inl rfl)
  have k0 := ex_trans kz (hW.ofEx' (Nat.le_refl _))
  obtain ⟨a, c, rfl, s1, s2, s3, _⟩ := hS.out
  obtain ⟨n, hnn⟩ : ∃ n, ls.length = n := ⟨_, rfl⟩
  have Hn := Lib.hid hnn
  have HS := Lib.hid hS
  have Hls := Lib.hid hls
  rw [hnn] at hn s1 hb hY
  clear hbx hW hS kz hls
  unfold maxLen at s2
  refine callsIn_of_wp Tryd.func71 rfl trivial ?_ rfl
  simp only [Tryd.ntmps71, List.size_toArray, List.length_cons, List.length_nil, Nat.reduceAdd, Nat.reduceSub, Array.replicate_succ, Array.replicate_zero, List.push_toArray, List.append_toArray, List.nil_append, List.cons_append]
  have hb0 := (block_cellF (o := 0) (v := .slice a n c) hb rfl).1
  have hbz := (Array.getElem?_eq_some_iff.1 hb).1
  have Hb := Lib.hid hb
  clear hb hnn
  gi_wp2
  clear hb0 hbz
  gi_loopw [7] (fun i wr => ∃ (pre : List (Nat × Value)) (k : Nat), pre.length = k ∧ k ≤ n ∧ i = I k ∧ J pre wr ∧ Hid (Ex wz wr ∧ wr.heap[bx]? = some (.cells #[.slice a n c] 30 (0, 0)) ∧ ∀ (j : Nat) (l : By), j < k → ls[j]? = some l → ∃ x, pre[j]? = some x ∧ TyB wr x.2 l)) (fun i _ => n - (intOf i).toNat)
  case atStart => exact ⟨[], 0, rfl, by omega, rfl, h0, Lib.hid ⟨k0, Hb.out, fun j l hj => by omega⟩⟩
  case round =>
    obtain ⟨pre, k, hpk, hk, rfl, hJs, HI⟩ := hrel
    by_cases hlt : k < n
    · have hkl : k < ls.length := by rw [Hn.out]; exact hlt
      have hS' := HS.out.ky (Ky.ex HI.out.1)
      obtain ⟨g, off, rfl, hg, u, hu, hT⟩ := hS'.at hkl
      obtain ⟨b, hbb⟩ : ∃ b, ls.getD k [] = b := ⟨_, rfl⟩
      rw [hbb] at hT
      have hbl : b.length ≤ 50000 := by
        rw [← hbb, List.getD_eq_getElem?_getD, List.getElem?_eq_getElem hkl]
        exact Hls.out _ (List.getElem_mem hkl)
      obtain ⟨ua, uc, rfl, _⟩ := hT.out
      have HC := Lib.hid (cloneW_any hT.slt hbl)
      have hYk := Lib.hid (hY pre)
      have hkn : (k : Int) < n := by omega
      have Hbb := Lib.hid hbb
      have Hpk := Lib.hid hpk
      have HJ := Lib.hid hJ
      have hJs := Lib.hid hJs
      clear hS' hT hbb hY hJ hpk h0
      gi_wp2_with (refine ⟨trivial, ?_⟩; gi_at_call 46; refine (callsIn_wide.2 HC.out).mono ?_; rintro e w3 ⟨u3, rfl, hT3, X, rfl⟩; have hyp := hYk.out (k, u3) (wx wr X) (HJ.out _ _ _ hJs.out ⟨X, rfl⟩) ⟨Hpk.out.symm, by rw [Hpk.out, Hbb.out]; exact hT3⟩ (by rw [Hpk.out]; exact hlt); obtain ⟨fn, tmps, assign, body, hy, hR⟩ := hyp; dsimp only [encA] at hy; replace hT3 := Lib.hid hT3; clear HC)
      refine hR.mono ?_
      rintro e W3 ⟨rfl, hJ3, hk3⟩
      gi_wp2
      go_roundw
      case rel =>
        refine ⟨pre ++ [(k, u3)], k + 1, by rw [List.length_append, Hpk.out]; rfl, by omega, (by simp; try omega), hJ3, Lib.hid ⟨?_, ?_, ?_⟩⟩
        · have x1 := ex_trans HI.out.1 (show Ex wr (wx wr X) from ⟨X, rfl⟩)
          have x2 := ex_below x1
          exact ex_of_below ⟨hk3.1.os.trans x2.os, hk3.1.tape.trans x2.tape, hk3.1.output.trans x2.output, Nat.le_trans x2.size hk3.1.size, fun b hb => (hk3.1.same b (Nat.lt_of_lt_of_le hb x2.size) (fun h => by omega)).trans (x2.block b hb)⟩
        · have b1 := ex_block (show Ex wr (wx wr X) from ⟨X, rfl⟩) HI.out.2.1
          exact (hk3.1.same bx (Array.getElem?_eq_some_iff.1 b1).1 (fun h => h.2 rfl)).trans b1
        · intro j l hj hl
          by_cases hjk : j < k
          · obtain ⟨x, q1, q2⟩ := HI.out.2.2 j l hjk hl
            exact ⟨x, by rw [List.getElem?_append_left (by rw [Hpk.out]; exact hjk)]; exact q1, (q2.ky (Ky.ex ⟨X, rfl⟩)).k8 hk3.2⟩
          · obtain rfl : j = k := by omega
            refine ⟨(j, u3), by rw [List.getElem?_append_right (by rw [Hpk.out]; exact Nat.le_refl _), Hpk.out, Nat.sub_self]; rfl, ?_⟩
            have : l = b := by
              rw [← Hbb.out, List.getD_eq_getElem?_getD, hl]; rfl
            rw [this]
            exact hT3.out.k8 hk3.2
      case measure => (simp [intOf]; try omega)
    · obtain rfl : k = n := by omega
      have hfin : Hid (∃ xs, SA ls xs wr ∧ J xs wr) := Lib.hid ⟨pre, ⟨by rw [hpk, Hn.out], fun j l hl => HI.out.2.2 j l (by have := (List.getElem?_eq_some_iff.1 hl).1; rw [Hn.out] at this; exact this) hl⟩, hJs⟩
      clear hJs hJ hY h0
      gi_wp2
      go_end0
      exact ⟨⟨_, rfl⟩, hfin.out⟩
end Go.Proofs.YtabjamkkhlbajaaDoor

/- The log: a log's transactions, as the laws collect them. -/
set_option linter.unusedSimpArgs false
set_option linter.unusedVariables false
set_option linter.unnecessarySimpa false
set_option maxRecDepth 20000
namespace Go.Proofs.YtabjamkkhlbajaaDoor
open Go.RowKit
attribute [local go_sem] Oper.semAt_some
theorem Frm.bkp {F : Nat → Prop} {w W W' : World} (h : Frm F w W) (k : Bkp w.heap.size W W') : Frm F w W' := ⟨k.os.trans h.os, k.tape.trans h.tape, k.output.trans h.output, Nat.le_trans h.size k.size, fun b hb hf => by
  have hz := Nat.lt_of_lt_of_le hb h.size
  have e := Array.getElem?_eq_getElem hz
  rw [k.same b _ e (Or.inr hb), ← e]
  exact h.same b hb hf⟩
theorem owns_bkp {B : Nat} {W W' : World} {Z : Nat} {t : TypeId} {s : Nat} {v : Value} {n : Nat} {xs : List Value} (h : W.ownsRow Z t s v n xs) (k : Bkp B W W') : W'.ownsRow Z t s v n xs := by
  refine ⟨h.1, ?_⟩
  rcases h.2 with h0 | ⟨g, cap, cur, rfl, h1, h2, h3⟩
  · exact Or.inl h0
  · exact Or.inr ⟨g, cap, cur, rfl, h1, k.same g _ h2 (Or.inl rfl), h3⟩
theorem KpA.bkp {Z bx B : Nat} {A D : World} (hZ : Z ≤ B) (hb : bx < B) (k : Bkp B A D) : KpA Z bx A D := ⟨⟨k.os, k.tape, k.output, k.size, fun b h1 h2 => by
  have e := Array.getElem?_eq_getElem h1
  rw [k.same b _ e (Or.inr (by
    by_cases h3 : Z ≤ b
    · have : b = bx := Classical.byContradiction fun h4 => h2 ⟨h3, h4⟩
      omega
    · omega)), e]⟩, k.k8⟩
theorem results_cells2 {P : Program} {fn : Func} {p q : Tmp} {ty tz : TypeId} (h : fn.results = #[.cell p ty, .cell q tz]) (tmps : Array Value) (w : World) {a b : Addr} {u v : Value}
    (hp : tmps.getD p undef = .pointer (some a)) (hq : tmps.getD q undef = .pointer (some b)) (hu : w.cell? a = some u) (hv : w.cell? b = some v) {d e : TypeDesc}
    (h1 : P.underlying ty = some d) (h2 : (match d with | .struct _ | .array _ _ => true | _ => false) = false) (h3 : P.underlying tz = some e) (h4 : (match e with | .struct _ | .array _ _ => true | _ => false) = false) :
    (results fn tmps).run P w = .ok (.tuple #[u, v]) w := by
  have hp' : tmps[p]?.getD undef = .pointer (some a) := by simpa using hp
  have hq' : tmps[q]?.getD undef = .pointer (some b) := by simpa using hq
  simp [results, h, hp', hq', asAddr, loadVar, Sem.run_bind, Result.andThen, run_isAgg_plain h1 h2, run_isAgg_plain h3 h4, hu, hv]
/-- The collected, and how. -/
def PostRt (w : World) (ls : List By) (e : Ending) (w' : World) : Prop := ∃ u, e = .returned (.tuple #[u, .bool true]) ∧ ShO w' w.heap.size u ls ∧ ∃ X, w' = wx w X
set_option maxRecDepth 100000 in
set_option maxHeartbeats 1000000 in
theorem rest_of {w : World} (a : Option Addr) (ls : List By) (hA : ∀ w', Ex w w' → Calls Tryd.prog 44 #[.pointer a] w' (PostAl w w' ls)) (hls : ∀ b ∈ ls, b.length ≤ 50000) (hn : ls.length ≤ 1000) :
    Calls Tryd.prog 12 #[.pointer a] w (PostRt w ls) := by
  obtain ⟨i0, hi, hz0, hz1, hz2⟩ := info_parts appSh.hi
  have HA := Lib.hid hA
  have Hls := Lib.hid hls
  clear hA hls
  refine calls_of_marks Tryd.func12 rfl ?_
  simp only [Tryd.ntmps12, List.size_toArray, List.length_cons, List.length_nil, Nat.reduceAdd, Nat.reduceSub, Array.replicate_succ, Array.replicate_zero, List.push_toArray, List.append_toArray, List.nil_append, List.cons_append]
  go_wp2_with (go_at_call 44; (with_reducible refine (HA.out _ (by (try show Ex _ _); with_reducible repeat (first | exact ex_refl _ | assumption | refine ex_drewL ?_ | refine ex_appR ?_ _ | refine ex_wx ?_ _ | refine ex_drew ?_ | refine ex_alloc ?_ _))).mono ?_); rintro e w3 ⟨bx, sv, rfl, ⟨X3, rfl⟩, hzx, hbx, hS⟩)
  refine wp_worldW fun w3 hw3 => ?_
  have k3 : Ex w w3 := by rw [← hw3]; exact (by (try show Ex _ _); with_reducible repeat (first | exact ex_refl _ | assumption | refine ex_drewL ?_ | refine ex_appR ?_ _ | refine ex_wx ?_ _ | refine ex_drew ?_ | refine ex_alloc ?_ _))
  have h2 : Boxed w3 w.heap.size 30 (.slice none 0 0) := by
    show w3.heap[_]? = _
    rw [← hw3]; exact ex_block (w := w.alloc (.cells #[.slice none 0 0] 30)) (by (try show Ex _ _); with_reducible repeat (first | exact ex_refl _ | assumption | refine ex_drewL ?_ | refine ex_appR ?_ _ | refine ex_wx ?_ _ | refine ex_drew ?_ | refine ex_alloc ?_ _)) (heap_alloc_new _ _)
  have h3 : Boxed w3 (w.heap.size + 1) 4 (.bool false) := by
    show w3.heap[_]? = _
    rw [← hw3]
    refine ex_block (w := (w.alloc (.cells #[.slice none 0 0] 30)).alloc (.cells #[.bool false] 4)) (by (try show Ex _ _); with_reducible repeat (first | exact ex_refl _ | assumption | refine ex_drewL ?_ | refine ex_appR ?_ _ | refine ex_wx ?_ _ | refine ex_drew ?_ | refine ex_alloc ?_ _)) ?_
    have := heap_alloc_new (w.alloc (.cells #[.slice none 0 0] 30)) (.cells #[.bool false] 4)
    simpa only [World.size_alloc] using this
  rw [hw3] at hbx
  simp only [World.size_alloc] at hzx
  obtain ⟨b2, hb2⟩ : ∃ b2, w.heap.size = b2 := ⟨_, rfl⟩
  obtain ⟨b3, hb3⟩ : ∃ b3, w.heap.size + 1 = b3 := ⟨_, rfl⟩
  rw [hb3] at h3 ⊢
  rw [hb2] at h2 ⊢
  have e23 : Hid (w.heap.size = b2 ∧ b3 = b2 + 1 ∧ b2 + 2 ≤ bx) := Lib.hid (by omega)
  have z2 := h2.lt
  have z3 := h3.lt
  have zx := (Array.getElem?_eq_some_iff.1 hbx).1
  have n23 : b2 ≠ b3 := by omega
  have n2x : b2 ≠ bx := by omega
  have HX := Lib.hid k3
  clear hw3 hb2 hb3
  refine (wpIn_wide (n := 3)).1 ?_
  refine range_gives (n := 3) (by omega) rfl (enters_of Tryd.func71 (by kernel_rfl) rfl) (all1_hands bx _ w3 sv ls hS k3 hbx Hls.out hn)
    (fun A B C h k => ⟨Frm.trans h.1 k.1, h.2.trans k.2⟩) (fun A D k => KpA.bkp (ex_size k3) zx k) (fun pre x A D k h => ⟨h.1, h.2.k8 k.k8⟩) (fun xs A D k h => ⟨h.1, fun j l hl => by obtain ⟨x, q1, q2⟩ := h.2 j l hl; exact ⟨x, q1, q2.k8 k.k8⟩⟩) (fun x => rfl)
    (fun pre W' => (∃ v, Boxed W' b2 30 v ∧ W'.ownsRow w3.heap.size 22 1 v pre.length (pre.map (·.2))) ∧ Boxed W' b3 4 (.bool false) ∧ Frm (fun b => b = b2) w3 W')
    (fun xs A D k h => by
      obtain ⟨⟨v, h1, h2⟩, h3, h4⟩ := h
      exact ⟨⟨v, k.same _ _ h1 (Or.inl rfl), owns_bkp h2 k⟩, k.same _ _ h3 (Or.inl rfl), h4.bkp k⟩)
    ⟨⟨_, h2, World.ownsRow_nil _ _ _ _⟩, h3, Frm.refl _ _⟩
    (fun x => { tmps := #[.pointer a, undef, PT b2, PT b3, I (1 + (x.1 : Int)), x.2, .pointer a, .func (.func 71) #[] #[PT bx], I (1 + (x.1 : Int)), x.2, undef, undef, undef, undef, undef, undef, undef, undef, undef], defers := [] })
    ?assign ?body ?done
  case assign =>
    intro l x W' K hK
    dsimp only [encA]
    gi_wp2
    exact hK
  case body =>
    rintro l pre ⟨k, u⟩ W' ⟨⟨v, hv, hrow⟩, hok, hF⟩ ⟨hk, hT⟩ hlt
    have hk : k = pre.length := hk
    subst hk
    obtain ⟨bl, hbl⟩ : ∃ bl, ls.getD pre.length [] = bl := ⟨_, rfl⟩
    replace hT : TyB W' u bl := by rw [← hbl]; exact hT
    obtain ⟨ua, uc, rfl, _⟩ := hT.out
    obtain ⟨kl, hkl⟩ : ∃ kl, pre.length = kl := ⟨_, rfl⟩
    rw [hkl] at hrow hlt
    have Hkl := Lib.hid hkl
    have hvc := hv.cell
    have hvz := hv.lt
    have hFs := hF.size
    have hpl : kl < 1000 := by omega
    have u1 : (1 + (kl : Int) != (kl : Int) + 1) = false := by simp; omega
    have u2 : (1 + (kl : Int) == (kl : Int) + 1) = true := by simp; omega
    dsimp only
    rw [hkl]
    clear hkl hbl
    gi_wp2_with (gi_at_builtin; refine wpListIn_append_own _ rfl _ _ 30 rfl w3.heap.size 22 i0 (.slice none 0 0) 1 24 Tryd.underlying30 hi hz0 hz1 hz2 rfl (by decide) _ _ _ rfl (hrow.alloc _) ⟨W'.heap.size, 0, none⟩ 1 1 [.slice ua bl.length uc] rfl rfl (cell_one_new _ _ _) (by simp [Value.oneCell']) (by unfold maxLen; omega) (by omega) (by simp; omega) ?_; intro v' w1 hown' hgrow _; obtain ⟨g', cap', rfl⟩ := ownsRow_succ hown'; have hne : v.ownBlock ≠ some b2 := (fun e => by have := (World.ownsRow.lt hrow b2 e).1; omega); have hv1 : Boxed w1 b2 30 v := (hv.alloc _).kept hgrow (fun e => hne e.symm); have hc1 := hv1.cell; have hf1 := hv1.frozen; have z1 := hv1.lt)
    have ho : ∀ b, v.ownBlock = some b → w3.heap.size ≤ b := fun b e => (World.ownsRow.lt hrow b e).1
    have F1 : Frm (fun b => v.ownBlock = some b) W' w1 := (Frm.ex (ex_alloc (ex_refl W') (.cells #[.slice ua bl.length uc] 22))).trans ⟨hgrow.os, hgrow.tape, hgrow.output, hgrow.size, fun b hb hn => hgrow.block b hb (fun e => hn e.symm)⟩
    have F2 : Frm (fun b => b = b2) w3 w1 := ⟨F1.os.trans hF.os, F1.tape.trans hF.tape, F1.output.trans hF.output, Nat.le_trans hF.size F1.size, fun b hb hn => (F1.same b (by omega) fun e => by have := ho b e; omega).trans (hF.same b hb hn)⟩
    have hg' : w3.heap.size ≤ g' := (World.ownsRow.lt hown' g' rfl).1
    have K1 : K8 W' w1 := fun g cs fr hg => (F1.same g (Array.getElem?_eq_some_iff.1 hg).1 fun e => by
      rcases hrow.2 with ⟨rfl, _⟩ | ⟨g2, cap2, cur2, rfl, _, h9, _⟩
      · cases e
      · obtain rfl : g2 = g := Option.some.inj e
        rw [h9] at hg
        injection hg with hg
        injection hg with _ ht _
        exact absurd ht (by decide)).trans hg
    have K2 : K8 w1 (w1.setCell ⟨b2, 0, none⟩ (.slice (some ⟨g', 0, none⟩) (kl + 1) cap')) := fun g cs fr hg => (setCell_heap _ fun e => by
      subst e
      have h9 : w1.heap[g]? = some (.cells #[v] 30 (0, 0)) := hv1
      rw [h9] at hg
      injection hg with hg
      injection hg with _ ht _
      exact absurd ht (by decide)).trans hg
    have e9 := e23.out
    refine ⟨(((KeepsOthers.alloc W' (.cells #[.slice ua bl.length uc] 22)).trans (KeepsOthers.of_grownBy hgrow fun j o ej hj => owns_cells (hrow.alloc _) ej hj)).trans (KeepsOthers.setCell _ _ _)).from _, ⟨?_, K1.trans K2⟩, ⟨_, hv1.set _, ?_⟩, ?_, F2.set rfl 0 _⟩
    · refine (F1.mono (G := fun b => w.heap.size ≤ b ∧ b ≠ bx) fun b e => ⟨by have := ho b e; omega, by have := ho b e; omega⟩).set (b := b2) ⟨by omega, by omega⟩ 0 _
    · rw [List.length_append, Hkl.out, List.map_append]
      exact owns_same hown' fun k hk => by
        obtain rfl : g' = k := Option.some.inj hk
        exact setCell_heap _ (by omega)
    · show (w1.setCell _ _).heap[b3]? = _
      refine (setCell_heap _ (Ne.symm n23)).trans ((F1.same b3 hok.lt fun e => ?_).trans hok)
      have := ho b3 e
      omega
  case done =>
    rintro D ys W' hD hSx ⟨⟨v, hv, hrow⟩, hok, hF⟩ hK
    have hFs := hF.size
    have ho : ∀ b, v.ownBlock = some b → w3.heap.size ≤ b := fun b e => (World.ownsRow.lt hrow b e).1
    have hK9 := hK
    have hne2 : D ≠ b2 := fun e => by subst e; have h9 : W'.heap[D]? = some (.cells #[v] 30 (0, 0)) := hv; rw [h9] at hK; cases hK
    have hne3 : D ≠ b3 := fun e => by subst e; have h9 : W'.heap[D]? = some (.cells #[.bool false] 4 (0, 0)) := hok; rw [h9] at hK; cases hK
    obtain ⟨va, vc, rfl, _⟩ := own_form hrow
    have hvc := hv.cell
    have hvf := hv.frozen
    have hvz := hv.lt
    have hoc := hok.cell
    have hof := hok.frozen
    have hoz := hok.lt
    obtain ⟨kl, hkl⟩ : ∃ kl, ys.length = kl := ⟨_, rfl⟩
    have Hkl := Lib.hid hkl
    have Hrow := Lib.hid hrow
    have HK := Lib.hid hK
    have HF := Lib.hid hF
    have Hv := Lib.hid hv
    have Hok := Lib.hid hok
    have HS := Lib.hid hSx
    rw [hkl] at hvc
    clear hrow hK hF hv hok hSx hkl
    go_wp2
    have e9 := e23.out
    have n23' : b3 ≠ b2 := fun e => n23 e.symm
    have hKV : ((W'.setCell ⟨b2, 0, none⟩ (.slice va kl vc)).setCell ⟨b3, 0, none⟩ (.bool true)).heap[D]? = some (.deferred (some [])) := (setCell_heap _ hne3).trans ((setCell_heap _ hne2).trans HK.out)
    refine ⟨by simp, .inl ⟨_, _, rfl, run_takeDeferred hKV, ?_⟩⟩
    have hv2 : Boxed ((W'.setCell ⟨b2, 0, none⟩ (.slice va kl vc)).setCell ⟨b3, 0, none⟩ (.bool true)) b2 30 (.slice va kl vc) := (setCell_heap _ n23).trans (Boxed.set (.slice va kl vc) Hv.out)
    have hv3 : Boxed ((W'.setCell ⟨b2, 0, none⟩ (.slice va kl vc)).setCell ⟨b3, 0, none⟩ (.bool true)) b3 4 (.bool true) := Boxed.set (v := .bool false) (.bool true) ((setCell_heap _ n23').trans Hok.out)
    have hg := grownBy_putObj' ((W'.setCell ⟨b2, 0, none⟩ (.slice va kl vc)).setCell ⟨b3, 0, none⟩ (.bool true)) D (.deferred none)
    have hu2 : Boxed (((W'.setCell ⟨b2, 0, none⟩ (.slice va kl vc)).setCell ⟨b3, 0, none⟩ (.bool true)).putObj D (.deferred none)) b2 30 (.slice va kl vc) := (hg.block b2 hv2.lt (fun e => by cases e; exact hne2 rfl)).trans hv2
    have hu3 : Boxed (((W'.setCell ⟨b2, 0, none⟩ (.slice va kl vc)).setCell ⟨b3, 0, none⟩ (.bool true)).putObj D (.deferred none)) b3 4 (.bool true) := (hg.block b3 hv3.lt (fun e => by cases e; exact hne3 rfl)).trans hv3
    have G1 : Frm (fun b => w.heap.size ≤ b) w W' := (Frm.ex HX.out).trans (HF.out.mono fun b e => by omega)
    have G2 := (G1.set (b := b2) (by omega) 0 (.slice va kl vc)).set (b := b3) (by omega) 0 (.bool true)
    have G3 := G2.putObj (D := D) (by omega) (.deferred none)
    have hXU := ex_of_below (G3.below (Nat.le_refl _) fun b hb => hb)
    refine ⟨_, results_cells2 rfl _ _ rfl rfl hu2.cell hu3.cell rfl rfl rfl rfl, (.slice va kl vc), rfl, ⟨ys.map (·.2), ?_, ?_⟩, hXU⟩
    · rw [← HS.out.1]
      have r1 := Hrow.out
      rw [Hkl.out] at r1 ⊢
      refine owns_lower (Z := w3.heap.size) (ownsRow_putObj (owns_same r1 fun k hk => ?_) _ hKV rfl) (by omega)
      have := ho k (by rw [Hkl.out]; exact hk)
      rw [setCell_heap _ (by omega), setCell_heap _ (by omega)]
    · intro j l hl
      obtain ⟨x, q1, q2⟩ := HS.out.2 j l hl
      refine ⟨x.2, by rw [List.getElem?_map, q1]; rfl, q2.k8 fun g cs fr hgg => ?_⟩
      have g1 : g ≠ b2 := fun e => by
        subst e
        have h9 : W'.heap[g]? = some (.cells #[_] 30 (0, 0)) := Hv.out
        rw [h9] at hgg
        injection hgg with hgg
        injection hgg with _ ht _
        exact absurd ht (by decide)
      have g2 : g ≠ b3 := fun e => by
        subst e
        have h9 : W'.heap[g]? = some (.cells #[_] 4 (0, 0)) := Hok.out
        rw [h9] at hgg
        injection hgg with hgg
        injection hgg with _ ht _
        exact absurd ht (by decide)
      have g3 : g ≠ D := fun e => by
        subst e
        rw [HK.out] at hgg
        cases hgg
      have h2 : ((W'.setCell ⟨b2, 0, none⟩ (.slice va kl vc)).setCell ⟨b3, 0, none⟩ (.bool true)).heap[g]? = some (.cells cs _ fr) := (setCell_heap _ g2).trans ((setCell_heap _ g1).trans hgg)
      exact (hg.block g (Array.getElem?_eq_some_iff.1 h2).1 (fun e => by cases e; exact g3 rfl)).trans h2
end Go.Proofs.YtabjamkkhlbajaaDoor
