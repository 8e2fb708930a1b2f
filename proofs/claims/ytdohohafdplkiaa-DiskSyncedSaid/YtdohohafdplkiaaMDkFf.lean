import Derived.Test.YtdohohafdplkiaaMDkFe
import Derived.Test.YtdohohafdplkiaaMDkUl

/- DiskSynced, walked. -/
set_option linter.unusedSimpArgs false
set_option linter.unusedVariables false
set_option maxRecDepth 20000
namespace Go.Proofs.Ytdohohafdplkiaa
open Go.RowKit
theorem SlV1.take {α : Type} {K : α → List Value} {s : Nat} {w : World} {a : Option Addr} {n c : Nat} {l : List α} (h : SlV1 K s w (.slice a n c) l) {k : Nat} (hk : k ≤ n) : SlV1 K s w (.slice a k c) (l.take k) ∧ (l.take k).length = k := by
  obtain ⟨a', c', e, h1, h2, h3, h4⟩ := h.out
  obtain ⟨rfl, rfl, rfl⟩ : a = a' ∧ n = l.length ∧ c = c' := by simpa using e
  have hl : (l.take k).length = k := by rw [List.length_take]; omega
  exact ⟨⟨a, c, by rw [hl], by omega, h2, h3, h4.take k⟩, hl⟩
theorem kept_rep {n k : Nat} (h : k < n) : keptL (List.replicate n true) k = true := by
  rw [kept_iff, List.getElem?_replicate, if_pos h]
theorem view_k {w W : World} {p : Nat} {d : Dk} (h : DkO w W p d) (hn : d.has.length = 9) (hops : d.ops < 1000000) {kv : Value} {keep : List Bool} (hs : SlV1 KBo 1 W kv keep) (hg : ∀ g, kv.ownBlock = some g → g < W.heap.size) : Calls Try.prog 19 #[PT p, kv] W fun e w' => e = .returned (.tuple #[.agg (rowB 576 (nineF (viewD d keep))), .bool true]) ∧ Ex W w' := by
  obtain ⟨L, rfl, h2, h3⟩ := h.out
  exact view_any h2 hn hops hs hg
theorem pend_len {w W : World} {p : Nat} {d : Dk} (h : DkO w W p d) : Calls Try.prog 23 #[PT p] W fun e w' => ∃ a c, e = .returned (.slice a d.qu.length c) ∧ d.qu.length ≤ c ∧ Ex W w' := by
  refine (pend_o h).mono fun e w' hh => ?_
  obtain ⟨v, rfl, hO, k⟩ := hh
  obtain ⟨a, c, rfl, hc, _⟩ := own_form hO
  rw [List.length_map] at hc ⊢
  exact ⟨a, c, rfl, hc, k⟩
set_option maxHeartbeats 2000000 in
theorem synced_any {w : World} {v : Value} {m : List (Ak × Value)} (h : AksV w v m) {a : Option Addr} {n c : Nat} {keep : List Bool} (hs : SlV1 KBo 1 w (.slice a n c) keep) (hg : ∀ g, (Value.slice a n c).ownBlock = some g → g < w.heap.size) :
    Calls Try.prog 7 #[v, .slice a n c] w (Post w (.bool true)) := by
  have hnc : n ≤ c ∧ c ≤ maxLen ∧ (a = none → c = 0) := by
    obtain ⟨a', c', e, h1, h2, h3, _⟩ := hs.out
    obtain ⟨rfl, rfl, rfl⟩ : a = a' ∧ n = keep.length ∧ c = c' := by simpa using e
    exact ⟨h1, h2, h3⟩
  obtain ⟨D0, hD0⟩ : ∃ D0, asksD (newD 9) ((m.map (·.1)).take 70) = D0 := ⟨_, rfl⟩
  have hB0 : AsB 70 D0 := by rw [← hD0]; exact asked_b _
  obtain ⟨q, hq⟩ : ∃ q, D0.qu = q := ⟨_, rfl⟩
  obtain ⟨h0, hh0⟩ : ∃ h0, D0.has = h0 := ⟨_, rfl⟩
  obtain ⟨m0, hm0⟩ : ∃ m0, D0.ops = m0 := ⟨_, rfl⟩
  obtain ⟨nq, hnq⟩ : ∃ nq, q.length = nq := ⟨_, rfl⟩
  have hhl : h0.length = 9 := by rw [← hh0]; exact hB0.len
  have hq70 : nq ≤ 70 := by rw [← hnq, ← hq]; exact hB0.qu
  have hm70 : m0 ≤ 70 := by rw [← hm0]; exact hB0.ops
  obtain ⟨V, hV⟩ : ∃ V, viewD (sD h0 q (-1) (-1) m0) (List.replicate nq true) = V := ⟨_, rfl⟩
  have hVl : V.length = 9 := by rw [← hV, view_len]; exact hhl
  have hSy : syncD (sD h0 q (-1) (-1) m0) = (sD V [] (-1) (-1) (m0 + 1), 0) := by
    have h1 := sD_sync (h := h0) (q := q) (ar := -1) (dm := -1) (m := m0) (by omega) (by omega) (by omega)
    have h2 := (sync_has (d := sD h0 q (-1) (-1) m0) (by rw [h1]) (keep := List.replicate nq true) (fun j hj => kept_rep (by rw [← hnq]; exact hj))).1
    rw [h1] at h2 ⊢
    rw [hV] at h2
    rw [show doQ h0 0 q (fun _ => true) = V from h2]; rfl
  have HW := Lib.hid (wakes_any w)
  have HA : Hid (∀ W, Ex w W → Calls Try.prog 17 #[v] W fun e w' => ∃ p, e = .returned (PT p) ∧ DkO w w' p D0) := Lib.hid fun W k => (asked_any (h.ex k)).mono fun e w' hh => by
    obtain ⟨p, rfl, h1⟩ := hh
    rw [hD0] at h1
    exact ⟨p, rfl, h1.base k⟩
  have HDe : Hid (∀ W p, DkO w W p D0 → Calls Try.prog 27 #[PT p] W fun e w' => e = .returned (.bool D0.dark) ∧ DkO w w' p D0) := Lib.hid fun W p hW => by
    obtain ⟨L, rfl, h2, h3⟩ := hW.out
    refine (dead_any h2).mono fun e w' hh => ?_
    obtain ⟨rfl, X, rfl⟩ := hh
    exact ⟨rfl, hW.grow ⟨X, rfl⟩⟩
  have HAr : Hid (D0.dark = false → ∀ W p, DkO w W p D0 → Calls Try.prog 24 #[PT p, .int .i64 (-1)] W fun e w' => e = .returned (I 0) ∧ DkO w w' p { D0 with ar := -1 }) := Lib.hid fun hdk W p hW => hW.call fun L hL hh => by
    have := arm_any hh (-1) (by omega)
    rw [hL] at this
    unfold armD at this
    rw [if_neg (by simp [hdk])] at this
    exact this
  have HF : Hid (D0.dark = false → ∀ W p, DkO w W p { D0 with ar := -1 } → Calls Try.prog 20 #[PT p, .int .i64 (-1)] W fun e w' => e = .returned (I 0) ∧ DkO w w' p (sD h0 q (-1) (-1) m0)) := Lib.hid fun hdk W p hW => hW.call fun L hL hh => by
    have := fail_any hh (-1) (by omega)
    rw [hL] at this
    unfold failD at this
    rw [if_neg (by simp [hdk])] at this
    have e : ({ ({ D0 with ar := -1 } : Dk) with dm := max (-1) (-1) } : Dk) = sD h0 q (-1) (-1) m0 := by
      unfold sD; rw [← hh0, ← hq, ← hm0, ← hdk]; rfl
    rw [← e]
    exact this
  have HP : Hid (∀ W p, DkO w W p (sD h0 q (-1) (-1) m0) → Calls Try.prog 23 #[PT p] W fun e w' => ∃ a c, e = .returned (.slice a nq c) ∧ nq ≤ c ∧ Ex W w') := Lib.hid fun W p hW => by
    have := pend_len hW
    rw [← hnq]; exact this
  have HY := Lib.hid (fun W => yes_all nq (by omega) W)
  have HV : Hid (∀ W p kv, DkO w W p (sD h0 q (-1) (-1) m0) → SlV1 KBo 1 W kv (List.replicate nq true) → (∀ g, kv.ownBlock = some g → g < W.heap.size) → Calls Try.prog 19 #[PT p, kv] W fun e w' => e = .returned (.tuple #[.agg (rowB 576 (nineF V)), .bool true]) ∧ Ex W w') := Lib.hid fun W p kv hW hs hg => by
    have := view_k hW hhl (show m0 < _ by omega) hs hg
    rwa [hV] at this
  have HS : Hid (∀ W p b o, DkH w W p (sD h0 q (-1) (-1) m0) b o → Calls Try.prog 28 #[PT p] W fun e w' => e = .returned (I 0) ∧ DkH w w' p (sD V [] (-1) (-1) (m0 + 1)) b o) := Lib.hid fun W p b o hW => hW.call fun L hL hh => by
    have := sync_any hh (show m0 < _ by omega)
    rw [hL, hSy] at this
    exact this
  have HP2 : Hid (∀ W p, DkO w W p (sD V [] (-1) (-1) (m0 + 1)) → Calls Try.prog 23 #[PT p] W fun e w' => ∃ a c, e = .returned (.slice a 0 c) ∧ 0 ≤ c ∧ Ex W w') := Lib.hid fun W p hW => pend_len hW
  have HV2 : Hid (∀ W p k, k ≤ n → DkO w W p (sD V [] (-1) (-1) (m0 + 1)) → Calls Try.prog 19 #[PT p, .slice a k c] W fun e w' => e = .returned (.tuple #[.agg (rowB 576 (nineF V)), .bool true]) ∧ Ex W w') := Lib.hid fun W p k hk hW => by
    have := view_k hW hVl (show m0 + 1 < _ by omega) ((hs.take hk).1.ex hW.ex) (fun g hg' => Nat.lt_of_lt_of_le (hg g (by cases a <;> exact hg')) (ex_size hW.ex))
    rwa [sD_view] at this
  have hEq : eqF (nineF V) (nineF V) 576 = true := eqF_same _ _
  obtain ⟨hnc1, hnc2, hnc3⟩ := hnc
  unfold maxLen at hnc2
  replace hs := Lib.hid hs
  replace hg := Lib.hid hg
  replace h := Lib.hid h
  replace hD0 := Lib.hid hD0
  replace hB0 := Lib.hid hB0
  replace hq := Lib.hid hq
  replace hh0 := Lib.hid hh0
  replace hm0 := Lib.hid hm0
  replace hnq := Lib.hid hnq
  replace hhl := Lib.hid hhl
  replace hV := Lib.hid hV
  replace hVl := Lib.hid hVl
  replace hSy := Lib.hid hSy
  cases hdk : D0.dark with
  | true =>
    rw [hdk] at HDe
    replace hdk := Lib.hid hdk
    go_enter Try.func7, Try.ntmps7
    go_wp2_with (first | (go_at_call 9; (with_reducible refine HW.out.mono ?_); rintro e w1 ⟨rfl, X, rfl⟩) | (go_at_call 17; (with_reducible refine (HA.out _ (by (try show Ex _ _); repeat (first | (with_reducible exact ex_refl _) | (with_reducible assumption) | (with_reducible refine ex_drewL ?_) | (with_reducible refine ex_appR ?_ _) | (with_reducible refine ex_wx ?_ _) | (with_reducible refine ex_drew ?_) | (with_reducible refine ex_alloc ?_ _)))).mono ?_); rintro e w2 ⟨p, rfl, h2⟩; replace h2 := Lib.hid h2) | (go_at_call 27; (with_reducible refine (HDe.out _ _ h2.out).mono ?_); rintro e w3 ⟨rfl, h3⟩; replace h3 := Lib.hid h3))
    go_ret
    exact post_mk' rfl h3.out.ex
  | false =>
    have HAr2 := Lib.hid (HAr.out hdk)
    have HF2 := Lib.hid (HF.out hdk)
    rw [hdk] at HDe
    replace hdk := Lib.hid hdk
    go_enter Try.func7, Try.ntmps7
    go_wp2_with (first | (go_at_call 9; (with_reducible refine HW.out.mono ?_); rintro e w1 ⟨rfl, X, rfl⟩) | (go_at_call 17; (with_reducible refine (HA.out _ (by (try show Ex _ _); repeat (first | (with_reducible exact ex_refl _) | (with_reducible assumption) | (with_reducible refine ex_drewL ?_) | (with_reducible refine ex_appR ?_ _) | (with_reducible refine ex_wx ?_ _) | (with_reducible refine ex_drew ?_) | (with_reducible refine ex_alloc ?_ _)))).mono ?_); rintro e w2 ⟨p, rfl, h2⟩; replace h2 := Lib.hid h2) | (go_at_call 27; (with_reducible refine (HDe.out _ _ h2.out).mono ?_); rintro e w3 ⟨rfl, h3⟩; replace h3 := Lib.hid h3) | (go_at_call 24; (with_reducible refine (HAr2.out _ _ h3.out).mono ?_); rintro e w4 ⟨rfl, h4⟩; replace h4 := Lib.hid h4) | (go_at_call 20; (with_reducible refine (HF2.out _ _ h4.out).mono ?_); rintro e w5 ⟨rfl, h5⟩; replace h5 := Lib.hid h5) | (go_at_call 23; (with_reducible refine (HP.out _ _ h5.out).mono ?_); rintro e w6 ⟨a6, c6, rfl, n6, k6⟩; have h6 := Lib.hid (h5.out.grow k6); clear h5) | (go_at_call 31; (with_reducible refine (HY.out _).mono ?_); rintro e w7 ⟨v7, rfl, s7, g7, k7⟩; have h7 := Lib.hid (h6.out.grow k7); replace s7 := Lib.hid s7; replace g7 := Lib.hid g7) | (go_at_call 19; (with_reducible refine (HV.out _ _ _ h7.out s7.out (fun g hg' => (g7.out g hg').2)).mono ?_); rintro e w8 ⟨rfl, k8⟩; have h8 := Lib.hid (h7.out.grow k8); clear h7) | (go_at_call 28; (with_reducible refine (HS.out _ _ _ _ (DkH.of h8.out (ex_alloc (ex_refl _) _) (heap_alloc_new _ _) (Nat.le_refl _))).mono ?_); rintro e w9 ⟨rfl, h9⟩; replace h9 := Lib.hid h9) | (go_at_call 23; (with_reducible refine (HP2.out _ _ h9.out.o).mono ?_); rintro e w10 ⟨a10, c10, rfl, n10, k10⟩; have h10 := Lib.hid (h9.out.grow k10); clear h9) | (go_at_call 19; (with_reducible refine (HV2.out _ _ _ (by omega) h10.out.o).mono ?_); rintro e w11 ⟨rfl, k11⟩; have h11 := Lib.hid (h10.out.grow k11); obtain ⟨n8, f8⟩ := block_cells (n := 576) h11.out.bl (by simp); have z8 := (Array.getElem?_eq_some_iff.1 h11.out.bl).1))
    all_goals (go_ret; exact post_mk' rfl (ex_trans h11.out.ex (by (try show Ex _ _); repeat (first | (with_reducible exact ex_refl _) | (with_reducible assumption) | (with_reducible refine ex_drewL ?_) | (with_reducible refine ex_appR ?_ _) | (with_reducible refine ex_wx ?_ _) | (with_reducible refine ex_drew ?_) | (with_reducible refine ex_alloc ?_ _)))))
end Go.Proofs.Ytdohohafdplkiaa
