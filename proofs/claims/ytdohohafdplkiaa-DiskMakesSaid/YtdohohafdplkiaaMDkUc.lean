import Derived.Test.YtdohohafdplkiaaMDkUa

/- Rows of questions; a disk that was asked. -/
set_option linter.unusedSimpArgs false
set_option linter.unusedVariables false
set_option maxRecDepth 20000
namespace Go.Proofs.Ytdohohafdplkiaa
open Go.RowKit
def KA (x : Ak × Value) : List Value := [I x.1.kind, I x.1.at', I x.1.n, x.2]
/-- A slice of questions, each with its own slice of bools. -/
structure AksV (w : World) (v : Value) (m : List (Ak × Value)) : Prop where
  row : SlV1 KA 4 w v m
  keep : ∀ x ∈ m, SlV1 KBo 1 w x.2 x.1.keep
  ok : ∀ x ∈ m, AkB x.1
theorem AksV.ex {w w' : World} {v : Value} {m : List (Ak × Value)} (h : AksV w v m) (k : Ex w w') : AksV w' v m := ⟨h.row.ex k, fun x hx => (h.keep x hx).ex k, h.ok⟩
theorem asks_b (l : List Ak) {d : Dk} {k : Nat} (h : DkB k d) : DkB (k + l.length) (asksD d l) := by
  induction l generalizing d k with
  | nil => exact h
  | cons a l ih => have := ih (ask_b (a := a) h); unfold asksD at *; simp only [List.foldl_cons, List.length_cons]; rwa [show k + (l.length + 1) = k + 1 + l.length by omega]
theorem newd_b (n : Nat) : DkB 0 (newD n) := ⟨Nat.le_refl _, Nat.le_refl _⟩
theorem of_o {w W0 W : World} {p : Nat} {d : Dk} (h : DkO w W0 p d) (k : Ex W0 W) (a : Ak) (kv : Value) (hs : SlV1 KBo 1 W kv a.keep) (hb : AkB a) (hops : d.ops < 1000000000) (hq : d.qu.length < 1000000) :
    Calls Try.prog 14 #[AV a kv, PT p] W (PostK w W0 W p (askD a d).1 (.tuple #[.agg (rowB 64 (bkF (askD a d).2.1)), I (askD a d).2.2])) := by
  obtain ⟨L, rfl, hL, ho⟩ := h.out
  refine (of_any (hL.ex k) a kv hs hb hops hq).mono fun e W' hh => ?_
  obtain ⟨L', rfl, k1, k2⟩ := hh
  exact DkO.post (ex_trans h.ex k) ho (fun b hb => hL.lt hb) rfl k1 k2
set_option maxHeartbeats 1000000 in
theorem asked_any {w : World} {v : Value} {m : List (Ak × Value)} (h : AksV w v m) :
    Calls Try.prog 17 #[v] w fun e w' => ∃ p, e = .returned (PT p) ∧ DkO w w' p (asksD (newD 9) ((m.map (·.1)).take 70)) := by
  obtain ⟨a, c, rfl, h1, h2, h3, hr⟩ := h.row.out
  have HR := Lib.hid hr
  have HA := Lib.hid h
  have HN : Hid (Calls Try.prog 10 #[.int .i64 9] w fun e w' => ∃ p, e = .returned (.tuple #[PT p, I 0]) ∧ DkO w w' p (newD 9)) := Lib.hid (new_o (w := w) (W := w) 9 (by omega) (by omega) (ex_refl _))
  unfold maxLen at h2
  clear h hr h3
  obtain ⟨n, hn⟩ : ∃ n, m.length = n := ⟨_, rfl⟩
  have HM := Lib.hid hn
  rw [hn] at h1 ⊢
  clear hn
  go_enter Try.func17, Try.ntmps17
  go_wp2_with (go_at_call 10; (with_reducible refine HN.out.mono ?_); rintro e w1 ⟨p, rfl, h1⟩; replace h1 := Lib.hid h1)
  go_loopw [15] (fun i W => ∃ k : Nat, k ≤ n ∧ i = I k ∧ Hid (DkO w W p (asksD (newD 9) (((m.map (·.1)).take k).take 70)))) (fun i _ => n - (intOf i).toNat)
  case atStart => exact ⟨0, by omega, rfl, h1⟩
  case round =>
    obtain ⟨k, hk, rfl, hW⟩ := hrel
    by_cases hlt : k < n
    · have hkm : k < m.length := by rw [HM.out]; exact hlt
      have hlt2 : (k : Int) < n := by omega
      obtain ⟨x, hx⟩ : ∃ x, m[k]? = some x := ⟨_, List.getElem?_eq_getElem hkm⟩
      have hxm : x ∈ m := List.mem_of_getElem? hx
      obtain ⟨g, off, rfl, hg, _⟩ := HR.out.pos (by omega)
      obtain ⟨hc, _⟩ := (HR.out.ex hW.out.ex).at hx
      have hst : Hid (((m.map (·.1)).take (k + 1)).take 70 = if k < 70 then ((m.map (·.1)).take k).take 70 ++ [x.1] else ((m.map (·.1)).take k).take 70) := Lib.hid (by
        have hkk : k < (m.map (·.1)).length := by rw [List.length_map]; exact hkm
        have he : (m.map (·.1))[k] = x.1 := by
          rw [List.getElem_map]; congr 1
          exact Option.some.inj ((List.getElem?_eq_getElem hkm).symm.trans hx)
        rw [List.take_take, List.take_take]
        split
        · rw [Nat.min_eq_right (by omega), Nat.min_eq_right (by omega), List.take_succ_eq_append_getElem hkk, he]
        · rw [Nat.min_eq_left (by omega), Nat.min_eq_left (by omega)])
      have hB : DkB 70 (asksD (newD 9) (((m.map (·.1)).take k).take 70)) := by
        have := asks_b (((m.map (·.1)).take k).take 70) (newd_b 9)
        have hl : (((m.map (·.1)).take k).take 70).length ≤ 70 := by rw [List.length_take]; omega
        exact ⟨by have := this.1; omega, by have := this.2; omega⟩
      obtain ⟨B1, B2⟩ := hB
      have hok := HA.out.ok x hxm
      have HOf : Hid (∀ W, Ex wr W → Calls Try.prog 14 #[AV x.1 x.2, PT p] W (PostK w wr W p (askD x.1 (asksD (newD 9) (((m.map (·.1)).take k).take 70))).1 (.tuple #[.agg (rowB 64 (bkF (askD x.1 (asksD (newD 9) (((m.map (·.1)).take k).take 70))).2.1)), I (askD x.1 (asksD (newD 9) (((m.map (·.1)).take k).take 70))).2.2]))) := Lib.hid fun W kW =>
        of_o hW.out kW x.1 x.2 (((HA.out.keep x hxm).ex hW.out.ex).ex kW) hok (by omega) (by omega)
      have hkv : x.2.oneCell' = true := by obtain ⟨ka, kc, e, _⟩ := (HA.out.keep x hxm).out; rw [e]; rfl
      have hgr := Nat.lt_of_lt_of_le hg (ex_size hW.out.ex)
      clear hxm hx hok B1 B2 hkm
      unfold asksD at hW HOf ⊢
      unfold KA AV at *
      by_cases h70 : k < 70
      · have h71 : (k : Int) < 70 := by omega
        rw [if_pos h70] at hst
        go_wp2_with (go_at_call 14; (with_reducible refine (HOf.out _ (by (try show Ex _ _); repeat (first | (with_reducible exact ex_refl _) | (with_reducible assumption) | (with_reducible refine ex_drewL ?_) | (with_reducible refine ex_appR ?_ _) | (with_reducible refine ex_wx ?_ _) | (with_reducible refine ex_drew ?_) | (with_reducible refine ex_alloc ?_ _)))).mono ?_); rintro e w2 ⟨rfl, h2, _⟩; replace h2 := Lib.hid h2)
        refine ⟨⟨k + 1, by omega, by go_num, Lib.hid ?_⟩, by simp [intOf]; omega⟩
        rw [hst.out, List.foldl_append]
        exact h2.out
      · have h71 : ¬ (k : Int) < 70 := by omega
        rw [if_neg h70] at hst
        go_wp2
        refine ⟨⟨k + 1, by omega, by go_num, Lib.hid ?_⟩, by simp [intOf]; omega⟩
        rw [hst.out]
        exact hW.out.grow (by (try show Ex _ _); repeat (first | (with_reducible exact ex_refl _) | (with_reducible assumption) | (with_reducible refine ex_drewL ?_) | (with_reducible refine ex_appR ?_ _) | (with_reducible refine ex_wx ?_ _) | (with_reducible refine ex_drew ?_) | (with_reducible refine ex_alloc ?_ _)))
    · obtain rfl : k = n := by omega
      have he : (m.map (·.1)).take k = m.map (·.1) := List.take_of_length_le (by rw [List.length_map, HM.out]; exact Nat.le_refl _)
      rw [he] at hW
      go_wp2
      go_ret
      exact ⟨_, rfl, hW.out⟩
end Go.Proofs.Ytdohohafdplkiaa
