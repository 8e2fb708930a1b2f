import Derived.Test.YtabjamkkhlbajaaDoorMWlZz
import Derived.Lib.BufferRead
import Derived.Laws.IdiomStrings
import Derived.Lib.LazyBuf
import Derived.Test.YtabjamkkhlbajaaDoorMSum

/- The log: the same rows of bytes? -/
set_option linter.unusedSimpArgs false
set_option linter.unusedVariables false
set_option maxRecDepth 20000
namespace Go.Proofs.YtabjamkkhlbajaaDoor
open Go.RowKit
attribute [local go_sem] Oper.semAt_some
theorem conv_slt {w : World} {v : Value} {l : List UInt8} (h : SlT w v l) : (convert 22 9 v).run Tryd.prog w = .ok (.string ⟨l.toArray⟩) w := by
  obtain ⟨a, c, rfl, h1, h2, h3, h4⟩ := h.out
  cases a with
  | none =>
    obtain rfl := h3 rfl
    obtain rfl : l = [] := List.eq_nil_of_length_eq_zero (by omega)
    rw [List.length_nil, Lib.run_convert_nil_bytes w _ _ _ 0 Tryd.underlying22 Tryd.underlying5 Tryd.underlying9]
  | some ad =>
    refine run_convert_bytes_back w _ _ _ ad c l Tryd.underlying22 Tryd.underlying5 Tryd.underlying9 fun j hj => ?_
    exact sll_news h4 (ex_refl _) j _ (by simp [Lib.byteCells, List.getElem?_eq_getElem hj])
theorem bytesEqual_any (l m : List UInt8) (v u : Value) (w : World) (hs : SlT w v l) (ht : SlT w u m) :
    Calls Tryd.prog 48 #[v, u] w (Post w (.bool (decide (l = m)))) := by
  have c1 := conv_slt hs
  have c2 := conv_slt ht
  have e1 : (l == m) = decide (l = m) := by rw [Bool.eq_iff_iff, beq_iff_eq, decide_eq_true_eq]
  rw [← e1]
  clear hs ht e1
  go_enter Tryd.func48, Tryd.ntmps48
  go_wp2
  go_ret
  exact post_mk rfl (by (try show Ex _ _); with_reducible repeat (first | exact ex_refl _ | assumption | refine ex_drewL ?_ | refine ex_appR ?_ _ | refine ex_wx ?_ _ | refine ex_drew ?_ | refine ex_alloc ?_ _))
set_option maxHeartbeats 400000 in
theorem same_z (l m : List By) (v u : Value) (w : World) (hs : SlSh w v l) (ht : SlSh w u m) (hl : l.length ≤ 1000000) (hm : m.length ≤ 1000000) :
    Calls Tryd.prog 26 #[v, u] w (Post w (.bool (decide (l = m)))) := by
  obtain ⟨a, c, rfl, h1, h2, _⟩ := hs.out
  obtain ⟨b, e, rfl, k1, k2, _⟩ := ht.out
  unfold maxLen at h2 k2
  have HS := Lib.hid hs
  have HT := Lib.hid ht
  clear hs ht
  by_cases hlm : l.length = m.length
  · obtain ⟨n, hn⟩ : ∃ n, l.length = n := ⟨_, rfl⟩
    have hn2 : m.length = n := by omega
    have Hn := Lib.hid hn
    have Hn2 := Lib.hid hn2
    rw [hn] at h1 hl ⊢
    rw [hn2] at k1 hm ⊢
    rw [hn] at HS
    rw [hn2] at HT
    clear hn hn2 hlm
    obtain ⟨r, hr⟩ : ∃ r, decide (l = m) = r := ⟨_, rfl⟩
    have Hr := Lib.hid hr
    rw [hr]
    clear hr
    go_enter Tryd.func26, Tryd.ntmps26
    go_wp2
    go_loopw [5, 13] (fun _ i W => ∃ k : Nat, k ≤ n ∧ i = I k ∧ Hid (∀ (j : Nat), j < k → l[j]? = m[j]?) ∧ Ex w W) (fun _ i _ => n - (intOf i).toNat)
    case atStart => exact ⟨0, by omega, rfl, Lib.hid fun j hj => by omega, (by (try show Ex _ _); with_reducible repeat (first | exact ex_refl _ | assumption | refine ex_drewL ?_ | refine ex_appR ?_ _ | refine ex_wx ?_ _ | refine ex_drew ?_ | refine ex_alloc ?_ _))⟩
    case round =>
      obtain ⟨k, hk, rfl, HE, hw⟩ := hrel
      by_cases hlt : k < n
      · obtain ⟨g, off, rfl, hg, x, hx, hX⟩ := (HS.out.ky (Ky.ex hw)).at (j := k) (by rw [Hn.out]; exact hlt)
        obtain ⟨g', off', rfl, hg', y, hy, hY⟩ := (HT.out.ky (Ky.ex hw)).at (j := k) (by rw [Hn2.out]; exact hlt)
        have hkn : (k : Int) < n := by omega
        have hxl : l[k]? = some (l.getD k []) := by rw [List.getD_eq_getElem?_getD, List.getElem?_eq_getElem (by rw [Hn.out]; exact hlt)]; rfl
        have hyl : m[k]? = some (m.getD k []) := by rw [List.getD_eq_getElem?_getD, List.getElem?_eq_getElem (by rw [Hn2.out]; exact hlt)]; rfl
        obtain ⟨xa, xc, rfl, _⟩ := hX.out
        obtain ⟨ya, yc, rfl, _⟩ := hY.out
        have HB := Lib.hid (fun W' (q : Ex wr W') => bytesEqual_any _ _ _ _ W' (hX.ky (Ky.ex q)).slt (hY.ky (Ky.ex q)).slt)
        obtain ⟨t, ht⟩ : ∃ t, decide (l.getD k [] = m.getD k []) = t := ⟨_, rfl⟩
        rw [ht] at HB
        have Ht := Lib.hid ht
        have Hxl := Lib.hid hxl
        have Hyl := Lib.hid hyl
        generalize (l.getD k []).length = nx at *
        generalize (m.getD k []).length = ny at *
        clear ht hxl hyl hX hY
        cases t
        · have hr2 : r = false := by
            rw [← Hr.out]
            exact decide_eq_false fun e => by
              have := of_decide_eq_false Ht.out
              rw [e] at this
              exact this rfl
          subst hr2
          go_wp2
          refine wp_region_seqA (wr) [(0, true), (1, true), (2, true), (3, true), (4, true), (5, true), (6, true), (7, true), (8, false), (9, true)] (by (try show Ex _ _); with_reducible repeat (first | exact ex_refl _ | assumption | refine ex_drewL ?_ | refine ex_appR ?_ _ | refine ex_wx ?_ _ | refine ex_drew ?_ | refine ex_alloc ?_ _)) (by kernel_rfl) (by kernel_rfl) (fun _ _ d _ _ h => by cases d <;> exact h) ?_
          simp only [List.map_cons, List.map_nil, nth]
          repeat (first | ((with_reducible refine wpSeq_look ?_); go_big_quiet_step (fail); (with_reducible refine wpQuiet_nil ?_)) | ((with_reducible refine wpSeq_effF ?_ ?_); (focus rfl); go_simp) | ((with_reducible refine wpSeq_eff ?_ ?_); (focus rfl); (try dsimp only); go_wp2_with ((go_at_call 48; (with_reducible refine (HB.out _ (by (try show Ex _ _); with_reducible repeat (first | exact ex_refl _ | assumption | refine ex_drewL ?_ | refine ex_appR ?_ _ | refine ex_wx ?_ _ | refine ex_drew ?_ | refine ex_alloc ?_ _))).mono ?_); rintro e w2 ⟨rfl, X2, rfl⟩)); refine mixQ_mk (by (try show Ex _ _); with_reducible repeat (first | exact ex_refl _ | assumption | refine ex_drewL ?_ | refine ex_appR ?_ _ | refine ex_wx ?_ _ | refine ex_drew ?_ | refine ex_alloc ?_ _)) ?_))
          refine wpSeq_nil ?_
          go_wp2
          go_ret
          exact post_mk' rfl (by (try show Ex _ _); with_reducible repeat (first | exact ex_refl _ | assumption | refine ex_drewL ?_ | refine ex_appR ?_ _ | refine ex_wx ?_ _ | refine ex_drew ?_ | refine ex_alloc ?_ _))
        · have HE2 : Hid (∀ (j : Nat), j < k + 1 → l[j]? = m[j]?) := Lib.hid fun j hj => by
            by_cases hjk : j < k
            · exact HE.out j hjk
            · obtain rfl : j = k := by omega
              rw [Hxl.out, Hyl.out, of_decide_eq_true Ht.out]
          go_wp2
          refine wp_region_seqA (wr) [(0, true), (1, true), (2, true), (3, true), (4, true), (5, true), (6, true), (7, true), (8, false), (9, true)] (by (try show Ex _ _); with_reducible repeat (first | exact ex_refl _ | assumption | refine ex_drewL ?_ | refine ex_appR ?_ _ | refine ex_wx ?_ _ | refine ex_drew ?_ | refine ex_alloc ?_ _)) (by kernel_rfl) (by kernel_rfl) (fun _ _ d _ _ h => by cases d <;> exact h) ?_
          simp only [List.map_cons, List.map_nil, nth]
          repeat (first | ((with_reducible refine wpSeq_look ?_); go_big_quiet_step (fail); (with_reducible refine wpQuiet_nil ?_)) | ((with_reducible refine wpSeq_effF ?_ ?_); (focus rfl); go_simp) | ((with_reducible refine wpSeq_eff ?_ ?_); (focus rfl); (try dsimp only); go_wp2_with ((go_at_call 48; (with_reducible refine (HB.out _ (by (try show Ex _ _); with_reducible repeat (first | exact ex_refl _ | assumption | refine ex_drewL ?_ | refine ex_appR ?_ _ | refine ex_wx ?_ _ | refine ex_drew ?_ | refine ex_alloc ?_ _))).mono ?_); rintro e w2 ⟨rfl, X2, rfl⟩)); refine mixQ_mk (by (try show Ex _ _); with_reducible repeat (first | exact ex_refl _ | assumption | refine ex_drewL ?_ | refine ex_appR ?_ _ | refine ex_wx ?_ _ | refine ex_drew ?_ | refine ex_alloc ?_ _)) ?_))
          refine wpSeq_nil ?_
          go_wp2
          exact ⟨⟨k + 1, by omega, by go_num, HE2, (by (try show Ex _ _); with_reducible repeat (first | exact ex_refl _ | assumption | refine ex_drewL ?_ | refine ex_appR ?_ _ | refine ex_wx ?_ _ | refine ex_drew ?_ | refine ex_alloc ?_ _))⟩, by simp [intOf]; omega⟩
      · obtain rfl : k = n := by omega
        have hr2 : r = true := by
          rw [← Hr.out]
          exact decide_eq_true (list_eqW Hn.out Hn2.out HE.out)
        subst hr2
        go_wp2
        go_ret
        exact post_mk' rfl (by (try show Ex _ _); with_reducible repeat (first | exact ex_refl _ | assumption | refine ex_drewL ?_ | refine ex_appR ?_ _ | refine ex_wx ?_ _ | refine ex_drew ?_ | refine ex_alloc ?_ _))
  · have hne : decide (l = m) = false := decide_eq_false fun e => hlm (by rw [e])
    rw [hne]
    have h7 : ¬ ((l.length : Nat) : Int) = (m.length : Nat) := by omega
    obtain ⟨n, hn⟩ : ∃ n, l.length = n := ⟨_, rfl⟩
    obtain ⟨n2, hn2⟩ : ∃ n, m.length = n := ⟨_, rfl⟩
    rw [hn, hn2] at h7
    rw [hn] at hl ⊢
    rw [hn2] at hm ⊢
    clear HS HT hne hn hn2
    go_enter Tryd.func26, Tryd.ntmps26
    go_wp2
    go_ret
    exact post_mk' rfl (by (try show Ex _ _); with_reducible repeat (first | exact ex_refl _ | assumption | refine ex_drewL ?_ | refine ex_appR ?_ _ | refine ex_wx ?_ _ | refine ex_drew ?_ | refine ex_alloc ?_ _))
end Go.Proofs.YtabjamkkhlbajaaDoor

/- The log: steps of the laws. -/
set_option linter.unusedSimpArgs false
set_option linter.unusedVariables false
set_option maxRecDepth 20000
namespace Go.Proofs.YtabjamkkhlbajaaDoor
open Go.RowKit
theorem SlT.take {w : World} {a : Option Addr} {n c : Nat} {l : List UInt8} (h : SlT w (.slice a n c) l) (k : Nat) (hk : k ≤ l.length) : SlT w (.slice a k c) (l.take k) := by
  obtain ⟨a', c', hv, h1, h2, h3, h4⟩ := h.out
  obtain ⟨rfl, rfl, rfl⟩ : a = a' ∧ n = l.length ∧ c = c' := by simpa using hv
  refine ⟨a, c, by rw [List.length_take, Nat.min_eq_left hk], by rw [List.length_take]; omega, h2, h3, ?_⟩
  unfold SlL at h4 ⊢
  rw [List.length_take, Nat.min_eq_left hk]
  rcases h4.out with h0 | ⟨g, off, h5, h6, h7⟩
  · obtain rfl : k = 0 := by omega
    exact SlB.zero _ _ _
  · subst h5
    refine SlB.mk' h6 fun j hj => ?_
    rw [h7 j (by omega)]
    unfold gF
    rw [List.getD_eq_getElem?_getD, List.getD_eq_getElem?_getD, List.getElem?_take, if_pos hj]
theorem SlV1.take {α : Type} {K : α → List Value} {s : Nat} {w : World} {a : Option Addr} {n c : Nat} {l : List α} (h : SlV1 K s w (.slice a n c) l) {k : Nat} (hk : k ≤ n) : SlV1 K s w (.slice a k c) (l.take k) ∧ (l.take k).length = k := by
  obtain ⟨a', c', e, h1, h2, h3, h4⟩ := h.out
  obtain ⟨rfl, rfl, rfl⟩ : a = a' ∧ n = l.length ∧ c = c' := by simpa using e
  have hl : (l.take k).length = k := by rw [List.length_take]; omega
  exact ⟨⟨a, c, by rw [hl], by omega, h2, h3, h4.take k⟩, hl⟩
attribute [local go_sem] Oper.semAt_some
/-- A step, as a value. -/
def StR (kd n : Int) (dv kv : Value) : Array Value := #[I kd, I n, dv, kv]
set_option maxHeartbeats 400000 in
theorem data_any {w : World} (kd n : Int) {dv kv : Value} {l : By} (hs : SlT w dv l) (hk : kv.oneCell' = true) : Calls Tryd.prog 22 #[.agg (StR kd n dv kv)] w (PostTb w (l.take 500)) := by
  obtain ⟨a, c, rfl, h1, h2, _⟩ := hs.out
  unfold StR
  have hk1 : (min (l.length : Int) 500).toNat ≤ l.length := by omega
  have HC := Lib.hid (fun W (q : Ex w W) => cloneT_any ((hs.ex q).take _ hk1) (by rw [List.length_take]; omega))
  have hL : l.take (min (l.length : Int) 500).toNat = l.take 500 := by
    by_cases h5 : l.length ≤ 500
    · rw [List.take_of_length_le h5, List.take_of_length_le (by omega)]
    · rw [show (min (l.length : Int) 500).toNat = 500 by omega]
  rw [hL] at HC
  unfold maxLen at h2
  obtain ⟨m, hm⟩ : ∃ m, l.length = m := ⟨_, rfl⟩
  rw [hm] at HC h1 ⊢
  clear hs hm hk1 hL
  go_enter Tryd.func22, Tryd.ntmps22
  go_wp2_with (go_at_call 47; (with_reducible refine (HC.out _ (by (try show Ex _ _); with_reducible repeat (first | exact ex_refl _ | assumption | refine ex_drewL ?_ | refine ex_appR ?_ _ | refine ex_wx ?_ _ | refine ex_drew ?_ | refine ex_alloc ?_ _))).mono ?_); rintro e w3 ⟨u, rfl, hT, X, rfl⟩)
  go_ret
  exact ⟨_, rfl, hT, (by (try show Ex _ _); with_reducible repeat (first | exact ex_refl _ | assumption | refine ex_drewL ?_ | refine ex_appR ?_ _ | refine ex_wx ?_ _ | refine ex_drew ?_ | refine ex_alloc ?_ _))⟩
end Go.Proofs.YtabjamkkhlbajaaDoor

/- The log: what a step does, and what is told behind it. -/
set_option linter.unusedSimpArgs false
set_option linter.unusedVariables false
set_option maxRecDepth 20000
namespace Go.Proofs.YtabjamkkhlbajaaDoor
open Go.RowKit
attribute [local go_sem] Oper.semAt_some
theorem does_z {w0 W : World} (G : Glob w0) (k0 : Ex w0 W) {p q : Nat} {d : Dk} {wl : Wl} (h : LgZ w0.heap.size W p q d wl) (ok : LgOk wl) (kd n : Int) {dv kv : Value} {l : By} (hs : SlT W dv l) (hk : kv.oneCell' = true) (hops : d.ops + 2000 < 1000000000) (hq : d.qu.length + 2000 < 1000000) :
    Calls Tryd.prog 23 #[.agg (StR kd n dv kv), PT p] W (PostLz w0.heap.size W p q (putK HW (decide (kd = 5)) d wl (l.take 500))) := by
  have HD := Lib.hid (fun W' (x : Ex W W') => data_any kd n (hs.ex x) hk)
  have hl : (l.take 500).length ≤ 1000000 := by rw [List.length_take]; omega
  have hd1 : dv.oneCell' = true := by obtain ⟨a, c, rfl, _⟩ := hs.out; rfl
  obtain ⟨lx, hlx⟩ : ∃ lx, l.take 500 = lx := ⟨_, rfl⟩
  rw [hlx] at HD hl ⊢
  clear hlx hs
  by_cases h5 : kd = 5
  · have HP := Lib.hid (fun W' v (x : Ex W W') (hv : TyB W' v lx) => chk_z G (ex_trans k0 x) (h.ex x) ok v _ hv hl hops hq)
    have e5 : decide (kd = 5) = true := decide_eq_true h5
    rw [e5]
    subst h5
    obtain ⟨r, hr⟩ : ∃ r, putK HW true d wl lx = r := ⟨_, rfl⟩
    have hr2 : chkD HW d wl lx = r := hr
    rw [hr2] at HP
    rw [hr]
    unfold StR at HD ⊢
    clear hr hr2 h hl e5 ok hops hq
    go_enter Tryd.func23, Tryd.ntmps23
    go_wp2_with (first | (go_at_call 22; (with_reducible refine (HD.out _ (by (try show Ex _ _); with_reducible repeat (first | exact ex_refl _ | assumption | refine ex_drewL ?_ | refine ex_appR ?_ _ | refine ex_wx ?_ _ | refine ex_drew ?_ | refine ex_alloc ?_ _))).mono ?_); rintro e w3 ⟨u, rfl, hT, X, rfl⟩; obtain ⟨ta, tc, rfl, _⟩ := hT.out; replace hT := Lib.hid hT) | (go_at_call 14; (with_reducible refine (HP.out _ _ ((by (try show Ex _ _); with_reducible repeat (first | exact ex_refl _ | assumption | refine ex_drewL ?_ | refine ex_appR ?_ _ | refine ex_wx ?_ _ | refine ex_drew ?_ | refine ex_alloc ?_ _)) : Ex W _) hT.out).mono ?_); rintro e w4 ⟨rfl, hG, hK⟩; replace hK := Kz.trans (Kz.ofEx (W := W) (by (try show Ex _ _); with_reducible repeat (first | exact ex_refl _ | assumption | refine ex_drewL ?_ | refine ex_appR ?_ _ | refine ex_wx ?_ _ | refine ex_drew ?_ | refine ex_alloc ?_ _))) hK; replace hG := Lib.hid hG))
    go_ret
    exact ⟨rfl, hG.out, hK⟩
  · have HP := Lib.hid (fun W' v (x : Ex W W') (hv : TyB W' v lx) => app_z G (ex_trans k0 x) (h.ex x) ok v _ hv hl hops hq)
    have e5 : decide (kd = 5) = false := decide_eq_false h5
    rw [e5]
    obtain ⟨r, hr⟩ : ∃ r, putK HW false d wl lx = r := ⟨_, rfl⟩
    have hr2 : appD HW d wl lx = r := hr
    rw [hr2] at HP
    rw [hr]
    unfold StR at HD ⊢
    clear hr hr2 h hl e5 ok hops hq
    go_enter Tryd.func23, Tryd.ntmps23
    go_wp2_with (first | (go_at_call 22; (with_reducible refine (HD.out _ (by (try show Ex _ _); with_reducible repeat (first | exact ex_refl _ | assumption | refine ex_drewL ?_ | refine ex_appR ?_ _ | refine ex_wx ?_ _ | refine ex_drew ?_ | refine ex_alloc ?_ _))).mono ?_); rintro e w3 ⟨u, rfl, hT, X, rfl⟩; obtain ⟨ta, tc, rfl, _⟩ := hT.out; replace hT := Lib.hid hT) | (go_at_call 13; (with_reducible refine (HP.out _ _ ((by (try show Ex _ _); with_reducible repeat (first | exact ex_refl _ | assumption | refine ex_drewL ?_ | refine ex_appR ?_ _ | refine ex_wx ?_ _ | refine ex_drew ?_ | refine ex_alloc ?_ _)) : Ex W _) hT.out).mono ?_); rintro e w4 ⟨rfl, hG, hK⟩; replace hK := Kz.trans (Kz.ofEx (W := W) (by (try show Ex _ _); with_reducible repeat (first | exact ex_refl _ | assumption | refine ex_drewL ?_ | refine ex_appR ?_ _ | refine ex_wx ?_ _ | refine ex_drew ?_ | refine ex_alloc ?_ _))) hK; replace hG := Lib.hid hG))
    go_ret
    exact ⟨rfl, hG.out, hK⟩
theorem next_z {W : World} (kd n : Int) {dv kv lv : Value} {l : By} {ls : List By} (hs : SlT W dv l) (hk : kv.oneCell' = true) (ht : SlSh W lv ls) (h0 : 0 < ls.length) (hn : ls.length ≤ 100000) :
    Calls Tryd.prog 24 #[.agg (StR kd n dv kv), lv] W (PostSh W (nextL (decide (kd = 5)) ls (l.take 500))) := by
  have HD := Lib.hid (fun W' (x : Ex W W') => data_any kd n (hs.ex x) hk)
  have hd1 : dv.oneCell' = true := by obtain ⟨a, c, rfl, _⟩ := hs.out; rfl
  obtain ⟨lx, hlx⟩ : ∃ lx, l.take 500 = lx := ⟨_, rfl⟩
  rw [hlx] at HD ⊢
  clear hlx hs
  by_cases h5 : kd = 5
  · have e5 : decide (kd = 5) = true := decide_eq_true h5
    rw [e5]
    subst h5
    obtain ⟨a, c, rfl, h1, h2, _, _⟩ := ht.out
    unfold StR at HD ⊢
    unfold nextL
    rw [if_pos rfl]
    clear e5 ht
    generalize ls.length = m at *
    go_enter Tryd.func24, Tryd.ntmps24
    go_wp2_with (go_at_call 22; (with_reducible refine (HD.out _ (by (try show Ex _ _); with_reducible repeat (first | exact ex_refl _ | assumption | refine ex_drewL ?_ | refine ex_appR ?_ _ | refine ex_wx ?_ _ | refine ex_drew ?_ | refine ex_alloc ?_ _))).mono ?_); rintro e w3 ⟨u, rfl, hT, X, rfl⟩; obtain ⟨ta, tc, rfl, _⟩ := hT.out; replace hT := Lib.hid hT)
    go_ret
    exact ⟨_, rfl, ⟨_, 1, rfl, Nat.le_refl _, by decide, (fun e => by cases e), Or.inr ⟨_, 0, _, _, rfl, heap_alloc_at (by simp [go_sem]), fun j x hj => (by
      cases j with
      | zero => simp at hj; subst hj; exact ⟨_, rfl, hT.out.ky (Ky.ex (by (try show Ex _ _); with_reducible repeat (first | exact ex_refl _ | assumption | refine ex_drewL ?_ | refine ex_appR ?_ _ | refine ex_wx ?_ _ | refine ex_drew ?_ | refine ex_alloc ?_ _)))⟩
      | succ j => simp at hj)⟩⟩, (by (try show Ex _ _); with_reducible repeat (first | exact ex_refl _ | assumption | refine ex_drewL ?_ | refine ex_appR ?_ _ | refine ex_wx ?_ _ | refine ex_drew ?_ | refine ex_alloc ?_ _))⟩
  · have e5 : decide (kd = 5) = false := decide_eq_false h5
    rw [e5]
    obtain ⟨a, c, rfl, h1, h2, _, h4⟩ := ht.out
    rcases h4 with rfl | ⟨g, off, cs, fr, rfl, hb, hcc⟩
    · simp at h0
    obtain ⟨olds, q1, q2, q3⟩ := ht.olds (Nat.le_refl _)
    rw [List.take_length] at q3
    have hg := (Array.getElem?_eq_some_iff.1 hb).1
    obtain ⟨m, hm⟩ : ∃ m, ls.length = m := ⟨_, rfl⟩
    have Hm := Lib.hid hm
    rw [hm] at h1 hn h0 q1 ⊢
    have Q1 := Lib.hid q1
    have Q2 := Lib.hid (fun W' (x : Ex W W') (j : Nat) (u : Value) (hj : olds[j]? = some u) => show W'.cell? ((⟨g, off, none⟩ : Addr).add j) = some u from (by rw [← q2 j u hj]; exact (ex_below x).cell (p := (⟨g, off, none⟩ : Addr).add j) (by rw [Addr.add_lit]; exact hg)))
    have Q3 := Lib.hid q3
    unfold maxLen at h2
    unfold StR at HD ⊢
    unfold nextL
    rw [if_neg (by decide)]
    clear e5 ht hb hcc q1 q2 q3 hm
    go_enter Tryd.func24, Tryd.ntmps24
    go_wp2
    refine wp_region_seqA (W.alloc (.cells #[I kd, I n, dv, kv] 45)) [(0, true), (1, true), (2, true), (3, true), (4, true), (5, true), (6, true), (7, false), (8, false), (9, false), (10, true)] (by (try show Ex _ _); with_reducible repeat (first | exact ex_refl _ | assumption | refine ex_drewL ?_ | refine ex_appR ?_ _ | refine ex_wx ?_ _ | refine ex_drew ?_ | refine ex_alloc ?_ _)) (by kernel_rfl) (by kernel_rfl) (fun _ _ d _ _ h => by cases d <;> exact h) ?_
    simp only [List.map_cons, List.map_nil, nth]
    repeat (first | ((with_reducible refine wpSeq_look ?_); go_big_quiet_step (fail); (with_reducible refine wpQuiet_nil ?_)) | ((with_reducible refine wpSeq_effF ?_ ?_); (focus rfl); go_simp) | ((with_reducible refine wpSeq_eff ?_ ?_); (focus rfl); (try dsimp only); go_wp2_with ((first | (go_at_call 22; (with_reducible refine (HD.out _ (by (try show Ex _ _); with_reducible repeat (first | exact ex_refl _ | assumption | refine ex_drewL ?_ | refine ex_appR ?_ _ | refine ex_wx ?_ _ | refine ex_drew ?_ | refine ex_alloc ?_ _))).mono ?_); rintro e w3 ⟨u, rfl, hT, X, rfl⟩; (try simp only [wx_wx, wx_drew] at hT); obtain ⟨ta, tc, rfl, _⟩ := hT.out; replace hT := Lib.hid hT) | (at_builtin; refine wpAppSh _ _ rfl rfl (n := m) (olds := olds) rfl (fun e => by cases e) Q1.out (fun b eb => by cases eb; exact Q2.out _ (by (try show Ex _ _); with_reducible repeat (first | exact ex_refl _ | assumption | refine ex_drewL ?_ | refine ex_appR ?_ _ | refine ex_wx ?_ _ | refine ex_drew ?_ | refine ex_alloc ?_ _))) rfl (block_cell (o := 0) (heap_alloc_at (by simp [go_sem])) rfl).1 rfl (by omega) ?_; intro v4 w4 hS4 hX4; obtain ⟨X4, rfl⟩ := hX4; (try simp only [wx_wx, wx_drew] at hS4); obtain ⟨a4, c4, rfl, _⟩ := own_form hS4; replace hS4 := Lib.hid hS4))); refine mixQ_mk (by (try show Ex _ _); with_reducible repeat (first | exact ex_refl _ | assumption | refine ex_drewL ?_ | refine ex_appR ?_ _ | refine ex_wx ?_ _ | refine ex_drew ?_ | refine ex_alloc ?_ _)) ?_))
    refine wpSeq_nil ?_
    go_wp2
    go_ret
    exact ⟨_, rfl, slsh_snoc hS4.out Hm.out Q1.out (fun j x hj => by
      obtain ⟨u, k1, k2⟩ := Q3.out j x hj
      exact ⟨u, k1, k2.ky (Ky.ex (by (try show Ex _ _); with_reducible repeat (first | exact ex_refl _ | assumption | refine ex_drewL ?_ | refine ex_appR ?_ _ | refine ex_wx ?_ _ | refine ex_drew ?_ | refine ex_alloc ?_ _)))⟩) (hT.out.ky (Ky.ex (by (try show Ex _ _); with_reducible repeat (first | exact ex_refl _ | assumption | refine ex_drewL ?_ | refine ex_appR ?_ _ | refine ex_wx ?_ _ | refine ex_drew ?_ | refine ex_alloc ?_ _)))), (by (try show Ex _ _); with_reducible repeat (first | exact ex_refl _ | assumption | refine ex_drewL ?_ | refine ex_appR ?_ _ | refine ex_wx ?_ _ | refine ex_drew ?_ | refine ex_alloc ?_ _))⟩
end Go.Proofs.YtabjamkkhlbajaaDoor

/- The log: a new log of the laws; what the laws' wakes does, plain. -/
set_option linter.unusedSimpArgs false
set_option linter.unusedVariables false
set_option maxRecDepth 20000
namespace Go.Proofs.YtabjamkkhlbajaaDoor
open Go.RowKit
attribute [local go_sem] Oper.semAt_some
theorem Still.lg {d : Dk} {wl : Wl} (h : Still HW d wl) : LgOk wl := by
  have := h.hI.ok.lg wl.br
  exact this
theorem new_calm (n : Nat) : Calm (newD n) := ⟨rfl, rfl, rfl⟩
theorem put_step (k : Bool) {d : Dk} {w : Wl} (h : Still HW d w) (hc : Calm d) (b : By) (hb : b.length ≤ 50000) (ht : w.c.turn < 1073741824) (hf : (if k = true then 0 else w.c.used) + secs b.length ≤ w.c.n) :
    ∃ d' c', putK HW k d w b = (d', ⟨c', nextL k w.sh b, false⟩, 0) ∧ Still HW d' ⟨c', nextL k w.sh b, false⟩ ∧ Calm d' ∧ c'.turn = w.c.turn + 1 ∧ c'.n = w.c.n ∧ c'.used = (if k = true then 0 else w.c.used) + secs b.length ∧ d'.has.length = d.has.length ∧ d'.ops ≤ d.ops + secs b.length + 3 := by
  rcases put_law HW_len k h b hb ht with ⟨h1, _⟩ | ⟨_, c', d', e, k1, k2, k3, k4, k5, k6, k7, k8, k9, k10, k11⟩
  · omega
  · obtain ⟨rfl, hc'⟩ := k11 hc
    obtain ⟨q1, q2⟩ := k9 rfl
    exact ⟨d', c', k8, ⟨rfl, q1, q2⟩, hc', k1, k2, k3, k5, k6⟩
theorem put_full (k : Bool) {d : Dk} {w : Wl} (h : Still HW d w) (b : By) (hb : b.length ≤ 50000) (ht : w.c.turn < 1073741824) (hf : (if k = true then 0 else w.c.used) + secs b.length > w.c.n) : putK HW k d w b = (d, w, 6) := by
  rcases put_law HW_len k h b hb ht with ⟨_, h1⟩ | ⟨h1, _⟩
  · exact h1
  · omega
/-- A log that is begun. -/
def bgL : Wl := ⟨firstC HW 10, [[]], false⟩
theorem new_format : ∃ d, formatD HW (newD 22) 10 = (d, some bgL, 0) ∧ Calm d ∧ LogI HW d bgL [[]] 1 7 := by
  obtain ⟨d', h1, h2, h3, h4, h5, h6⟩ := fmt_law HW_len (d := newD 22) (n := 10) (new_calm _) (by simp [mayI, newD])
  exact ⟨d', h1, h2, ⟨⟨rfl, h5, h6⟩, rfl, by rw [h3]; simp [newD], Nat.le_refl _, by simpa [newD] using h4⟩⟩
def PostBg (w0 w : World) (e : Ending) (w' : World) : Prop := ∃ p q d, e = .returned (PT p) ∧ LgZ w0.heap.size w' p q d bgL ∧ Kz w0.heap.size w w' ∧ LogI HW d bgL [[]] 1 7 ∧ Calm d
theorem PostOz.some {Z : Nat} {W : World} {q : Nat} {d : Dk} {wl : Wl} {x : Int} {e : Ending} {W' : World} (h : PostOz Z W q (d, some wl, x) e W') : ∃ p, e = .returned (.tuple #[PT p, I x]) ∧ Kz Z W W' ∧ LgZ Z W' p q d wl := by
  obtain ⟨v, rfl, h1, h2, p, rfl, h3⟩ := h
  exact ⟨p, rfl, h1, h3⟩
theorem PostOz.none {Z : Nat} {W : World} {q : Nat} {d : Dk} {x : Int} {e : Ending} {W' : World} (h : PostOz Z W q (d, none, x) e W') : e = .returned (.tuple #[.pointer none, I x]) ∧ Kz Z W W' ∧ DkZ Z W' q d := by
  obtain ⟨v, rfl, h1, h2, rfl⟩ := h
  exact ⟨rfl, h1, h2⟩
theorem begun_z {w0 W : World} (G : Glob w0) (k0 : Ex w0 W) : Calls Tryd.prog 21 #[] W (PostBg w0 W) := by
  obtain ⟨d, hF, hC, hI⟩ := new_format
  have HN : Hid (∀ W', Ex W W' → Calls Tryd.prog 32 #[I 22] W' fun e w' => ∃ q, e = .returned (.tuple #[PT q, I 0]) ∧ DkZ w0.heap.size w' q (newD 22) ∧ Ex W' w') := Lib.hid (fun W' (x : Ex W W') => new_z (ex_trans k0 x) 22 (by omega) (by omega))
  have HFo := Lib.hid (fun W' (x : Ex W W') q (h : DkZ w0.heap.size W' q (newD 22)) => format_z G (ex_trans k0 x) h 10 (by simp [newD]) (by simp [newD]))
  rw [hF] at HFo
  have HI := Lib.hid (And.intro hI hC)
  clear hF hI hC
  go_enter Tryd.func21, Tryd.ntmps21
  go_wp2_with (first | (go_at_call 32; (with_reducible refine (HN.out _ (by (try show Ex _ _); with_reducible repeat (first | exact ex_refl _ | assumption | refine ex_drewL ?_ | refine ex_appR ?_ _ | refine ex_wx ?_ _ | refine ex_drew ?_ | refine ex_alloc ?_ _))).mono ?_); rintro e w2 ⟨q, rfl, hD, X2, rfl⟩; replace hD := Lib.hid hD) | (go_at_call 8; (with_reducible refine (HFo.out _ ((by (try show Ex _ _); with_reducible repeat (first | exact ex_refl _ | assumption | refine ex_drewL ?_ | refine ex_appR ?_ _ | refine ex_wx ?_ _ | refine ex_drew ?_ | refine ex_alloc ?_ _)) : Ex W _) _ hD.out).mono ?_); intro e w3 hP; obtain ⟨p, rfl, hK, hG⟩ := hP.some; clear hP; replace hK := Kz.trans (Kz.ofEx (W := W) (by (try show Ex _ _); with_reducible repeat (first | exact ex_refl _ | assumption | refine ex_drewL ?_ | refine ex_appR ?_ _ | refine ex_wx ?_ _ | refine ex_drew ?_ | refine ex_alloc ?_ _))) hK; replace hG := Lib.hid hG))
  go_ret
  exact ⟨_, _, _, rfl, hG.out, hK, HI.out.1, HI.out.2⟩
/-- What the laws' wakes does to a log. -/
theorem wake_chain (b1 b2 b3 : By) (h1 : b1.length = 60) (h2 : b2.length = 61) (h3 : b3.length = 1) : ∃ d1 w1 d2 w2 d3 w3 d5 w5 d6 w6,
    formatD HW (newD 10) 4 = (d1, some w1, 0) ∧ appD HW d1 w1 b1 = (d2, w2, 0) ∧ appD HW d2 w2 b2 = (d3, w3, 0) ∧ appD HW d3 w3 b3 = (d3, w3, 6) ∧ openD HW d3 = (d5, some w5, 0) ∧ chkD HW d5 w5 [] = (d6, w6, 0) ∧
    (LgOk w1 ∧ d1.ops ≤ 7 ∧ d1.qu = []) ∧ (LgOk w2 ∧ d2.ops ≤ 20 ∧ d2.qu = []) ∧ (LgOk w3 ∧ d3.ops ≤ 30 ∧ d3.qu = [] ∧ w3.c.turn = 3) ∧ (LgOk w5 ∧ d5.ops ≤ 60 ∧ d5.qu = [] ∧ w5.sh.length = 3 ∧ w5.c.n = 4 ∧ w5.c.used = 4 ∧ w5.c.turn = 4) ∧ (LgOk w6 ∧ w6.c.n = 4 ∧ w6.c.used = 1) := by
  have s1 : secs b1.length = 1 := by rw [h1]; rfl
  have s2 : secs b2.length = 2 := by rw [h2]; rfl
  have s3 : secs b3.length = 1 := by rw [h3]; rfl
  have s0 : secs ([] : By).length = 1 := rfl
  obtain ⟨d1, f1, f2, f3, f4, f5, f6⟩ := fmt_law HW_len (d := newD 10) (n := 4) (new_calm _) (by simp [mayI, newD])
  have S1 : Still HW d1 ⟨firstC HW 4, [[]], false⟩ := ⟨rfl, f5, f6⟩
  obtain ⟨d2, c2, g1, S2, C2, g4, g5, g6, g7, g8⟩ := put_step false S1 f2 b1 (by omega) (by show 1 < _; omega) (by rw [s1]; show 1 + 1 ≤ 4; omega)
  have g4 : c2.turn = 2 := g4
  have g5 : c2.n = 4 := g5
  have g6 : c2.used = 1 + secs b1.length := g6
  obtain ⟨d3, c3, i1, S3, C3, i4, i5, i6, i7, i8⟩ := put_step false S2 C2 b2 (by omega) (by show c2.turn < _; omega) (by show c2.used + _ ≤ c2.n; omega)
  have i4 : c3.turn = c2.turn + 1 := i4
  have i5 : c3.n = c2.n := i5
  have i6 : c3.used = c2.used + secs b2.length := i6
  have hno := put_full false S3 b3 (by omega) (by show c3.turn < _; omega) (by show c3.used + _ > c3.n; omega)
  obtain ⟨d5, j1, j2, j3, j4, j5, j6⟩ := open_known HW_len C3 (by rw [S3.qu]; simp) (c := c3) (sh := nextL false (nextL false [[]] b1) b2) (by rw [img_nil S3.qu]; exact S3.hI) (by omega)
  have S5 : Still HW d5 ⟨upC c3, nextL false (nextL false [[]] b1) b2, false⟩ := ⟨rfl, j3, j4⟩
  obtain ⟨d6, c6, l1, S6, C6, l4, l5, l6, l7, l8⟩ := put_step true S5 j2 [] (by simp) (by show c3.turn + 1 < _; omega) (by rw [s0]; show 0 + 1 ≤ c3.n; omega)
  have l5 : c6.n = c3.n := l5
  have l6 : c6.used = 0 + secs ([] : By).length := l6
  have f4 : d1.ops ≤ 0 + 7 := f4
  exact ⟨d1, _, d2, _, d3, _, d5, _, d6, _, f1, g1, i1, hno, j1, l1, ⟨S1.lg, by omega, f5⟩, ⟨S2.lg, by omega, S2.qu⟩, ⟨S3.lg, by omega, S3.qu, by show c3.turn = 3; omega⟩,
    ⟨S5.lg, by rw [j5]; omega, j3, by simp [nextL], by show c3.n = 4; omega, by show c3.used = 4; omega, by show c3.turn + 1 = 4; omega⟩, ⟨S6.lg, by show c6.n = 4; omega, by show c6.used = 1; omega⟩⟩
end Go.Proofs.YtabjamkkhlbajaaDoor

/- The log: the laws' wakes. -/
set_option linter.unusedSimpArgs false
set_option linter.unusedVariables false
set_option maxRecDepth 20000
namespace Go.Proofs.YtabjamkkhlbajaaDoor
open Go.RowKit
attribute [local go_sem] Oper.semAt_some
theorem tyb_alloc {w : World} {g n : Nat} {cs : Array Value} {fr : Nat × Nat} (b : By) (hb : b.length = n) (hn : n ≤ 1000) (hg : w.heap[g]? = some (.cells cs 5 fr)) (hc : ∀ j, j < n → cs[j]? = some (B (gF b j))) : TyB w (.slice (some ⟨g, 0, none⟩) n n) b := by
  subst hb
  exact ⟨_, b.length, rfl, Nat.le_refl _, by unfold maxLen; omega, (fun e => by cases e), Or.inr ⟨g, 0, cs, fr, rfl, hg, fun j hj => by rw [Nat.zero_add]; exact hc j hj⟩⟩
theorem tyb_one {w : World} {g : Nat} {fr : Nat × Nat} (hg : w.heap[g]? = some (.cells #[.int .u8 1] 5 fr)) : TyB w (.slice (some ⟨g, 0, none⟩) 1 1) [1] := tyb_alloc [1] rfl (by omega) hg fun j hj => by
  obtain rfl : j = 0 := by omega
  rfl
theorem tyb_nil (w : World) : TyB w (.slice none 0 0) [] := ⟨none, 0, rfl, by simp, by decide, fun _ => rfl, Or.inl rfl⟩
theorem zero_get (n j : Nat) (h : j < n) : gF (List.replicate n (0 : UInt8)) j = 0 := by
  unfold gF
  rw [List.getD_eq_getElem?_getD, List.getElem?_replicate, if_pos h]; rfl
def PostWk (w0 W : World) (e : Ending) (w' : World) : Prop := e = .returned (.bool true) ∧ Kz w0.heap.size W w'
set_option maxHeartbeats 1000000 in
theorem wakes_z {w0 W : World} (G : Glob w0) (k0 : Ex w0 W) : Calls Tryd.prog 7 #[] W (PostWk w0 W) := by
  obtain ⟨d1, w1, d2, w2, d3, w3, d5, w5, d6, w6, f1, f2, f3, f4, f5, f6, ⟨o1, p1, q1⟩, ⟨o2, p2, q2⟩, ⟨o3, p3, q3, t3⟩, ⟨o5, p5, q5, s5, n5, u5, t5⟩, ⟨o6, n6, u6⟩⟩ := wake_chain (List.replicate 60 0) (List.replicate 61 0) [1] (by simp) (by simp) rfl
  have HN : Hid (∀ W', Ex w0 W' → Calls Tryd.prog 32 #[I 10] W' fun e w' => ∃ q, e = .returned (.tuple #[PT q, I 0]) ∧ DkZ w0.heap.size w' q (newD 10) ∧ Ex W' w') := Lib.hid (fun W' x => new_z x 10 (by omega) (by omega))
  have HFo := Lib.hid (fun W' (x : Ex w0 W') q (h : DkZ w0.heap.size W' q (newD 10)) => format_z G x h 4 (by simp [newD]) (by simp [newD]))
  rw [f1] at HFo
  have HA1 := Lib.hid (fun W' v (x : Ex w0 W') p q (h : LgZ w0.heap.size W' p q d1 w1) (hv : TyB W' v (List.replicate 60 0)) => app_z G x h o1 v _ hv (by simp) (by omega) (by rw [q1]; simp))
  have HA2 := Lib.hid (fun W' v (x : Ex w0 W') p q (h : LgZ w0.heap.size W' p q d2 w2) (hv : TyB W' v (List.replicate 61 0)) => app_z G x h o2 v _ hv (by simp) (by omega) (by rw [q2]; simp))
  have HA3 := Lib.hid (fun W' v (x : Ex w0 W') p q (h : LgZ w0.heap.size W' p q d3 w3) (hv : TyB W' v [1]) => app_z G x h o3 v _ hv (by simp) (by omega) (by rw [q3]; simp))
  rw [f2] at HA1
  rw [f3] at HA2
  rw [f4] at HA3
  have HT3 : Hid (∀ W' p q, LgZ w0.heap.size W' p q d3 w3 → Calls Tryd.prog 18 #[PT p] W' (Post W' (.int .u32 3))) := Lib.hid fun W' p q h => by
    have := turn_z h
    rw [t3] at this
    exact this
  have HO := Lib.hid (fun W' (x : Ex w0 W') p q (h : LgZ w0.heap.size W' p q d3 w3) => open_z G x h.dk (by omega) (by rw [q3]; simp))
  rw [f5] at HO
  have HL5 : Hid (∀ W' p q, LgZ w0.heap.size W' p q d5 w5 → Calls Tryd.prog 16 #[PT p] W' (Post W' (I 2))) := Lib.hid fun W' p q h => by
    have := len_z h
    rw [s5] at this
    exact this
  have HF5 : Hid (∀ W' p q, LgZ w0.heap.size W' p q d5 w5 → Calls Tryd.prog 17 #[PT p] W' (Post W' (I 0))) := Lib.hid fun W' p q h => by
    have := left_z h o5
    rw [n5, u5] at this
    exact this
  have HT5 : Hid (∀ W' p q, LgZ w0.heap.size W' p q d5 w5 → Calls Tryd.prog 18 #[PT p] W' (Post W' (.int .u32 4))) := Lib.hid fun W' p q h => by
    have := turn_z h
    rw [t5] at this
    exact this
  have HC5 := Lib.hid (fun W' (x : Ex w0 W') p q (h : LgZ w0.heap.size W' p q d5 w5) => chk_z G x h o5 (.slice none 0 0) [] (tyb_nil _) (by simp) (by omega) (by rw [q5]; simp))
  rw [f6] at HC5
  have HF6 : Hid (∀ W' p q, LgZ w0.heap.size W' p q d6 w6 → Calls Tryd.prog 17 #[PT p] W' (Post W' (I 3))) := Lib.hid fun W' p q h => by
    have := left_z h o6
    rw [n6, u6] at this
    exact this
  clear f1 f2 f3 f4 f5 f6 o1 p1 q1 o2 p2 q2 o3 p3 q3 t3 o5 p5 q5 s5 n5 u5 t5 o6 n6 u6
  go_enter Tryd.func7, Tryd.ntmps7
  go_wp2_with (first | (go_at_call 17; (with_reducible refine (HF6.out _ _ _ (hG7.out.ex (by (try show Ex _ _); with_reducible repeat (first | exact ex_refl _ | assumption | refine ex_drewL ?_ | refine ex_appR ?_ _ | refine ex_wx ?_ _ | refine ex_drew ?_ | refine ex_alloc ?_ _)))).mono ?_); rintro e z8 ⟨rfl, Y8, rfl⟩) | (go_at_call 14; (with_reducible refine (HC5.out _ (by (try show Ex _ _); with_reducible repeat (first | exact ex_refl _ | assumption | refine ex_drewL ?_ | refine ex_appR ?_ _ | refine ex_wx ?_ _ | refine ex_drew ?_ | refine ex_alloc ?_ _)) _ _ (hG5.out.ex (by (try show Ex _ _); with_reducible repeat (first | exact ex_refl _ | assumption | refine ex_drewL ?_ | refine ex_appR ?_ _ | refine ex_wx ?_ _ | refine ex_drew ?_ | refine ex_alloc ?_ _)))).mono ?_); rintro e W7 ⟨rfl, hG7, hK7⟩; replace hK7 := Kz.trans (Kz.ofEx (W := W5) (by (try show Ex _ _); with_reducible repeat (first | exact ex_refl _ | assumption | refine ex_drewL ?_ | refine ex_appR ?_ _ | refine ex_wx ?_ _ | refine ex_drew ?_ | refine ex_alloc ?_ _))) hK7; have k7 := hK7.ex k5; replace hG7 := Lib.hid hG7) | (go_at_call 18; (with_reducible refine (HT5.out _ _ _ (hG5.out.ex (by (try show Ex _ _); with_reducible repeat (first | exact ex_refl _ | assumption | refine ex_drewL ?_ | refine ex_appR ?_ _ | refine ex_wx ?_ _ | refine ex_drew ?_ | refine ex_alloc ?_ _)))).mono ?_); rintro e z6 ⟨rfl, Y6, rfl⟩) | (go_at_call 17; (with_reducible refine (HF5.out _ _ _ (hG5.out.ex (by (try show Ex _ _); with_reducible repeat (first | exact ex_refl _ | assumption | refine ex_drewL ?_ | refine ex_appR ?_ _ | refine ex_wx ?_ _ | refine ex_drew ?_ | refine ex_alloc ?_ _)))).mono ?_); rintro e z6 ⟨rfl, Y6, rfl⟩) | (go_at_call 16; (with_reducible refine (HL5.out _ _ _ (hG5.out.ex (by (try show Ex _ _); with_reducible repeat (first | exact ex_refl _ | assumption | refine ex_drewL ?_ | refine ex_appR ?_ _ | refine ex_wx ?_ _ | refine ex_drew ?_ | refine ex_alloc ?_ _)))).mono ?_); rintro e z6 ⟨rfl, Y6, rfl⟩) | (go_at_call 9; (with_reducible refine (HO.out _ (by (try show Ex _ _); with_reducible repeat (first | exact ex_refl _ | assumption | refine ex_drewL ?_ | refine ex_appR ?_ _ | refine ex_wx ?_ _ | refine ex_drew ?_ | refine ex_alloc ?_ _)) _ _ (hG4.out.ex (by (try show Ex _ _); with_reducible repeat (first | exact ex_refl _ | assumption | refine ex_drewL ?_ | refine ex_appR ?_ _ | refine ex_wx ?_ _ | refine ex_drew ?_ | refine ex_alloc ?_ _)))).mono ?_); intro e W5 hP; obtain ⟨p5, rfl, hK5, hG5⟩ := hP.some; clear hP; replace hK5 := Kz.trans (Kz.ofEx (W := W4) (by (try show Ex _ _); with_reducible repeat (first | exact ex_refl _ | assumption | refine ex_drewL ?_ | refine ex_appR ?_ _ | refine ex_wx ?_ _ | refine ex_drew ?_ | refine ex_alloc ?_ _))) hK5; have k5 := hK5.ex k4; replace hG5 := Lib.hid hG5) | (go_at_call 18; (with_reducible refine (HT3.out _ _ _ (hG4.out.ex (by (try show Ex _ _); with_reducible repeat (first | exact ex_refl _ | assumption | refine ex_drewL ?_ | refine ex_appR ?_ _ | refine ex_wx ?_ _ | refine ex_drew ?_ | refine ex_alloc ?_ _)))).mono ?_); rintro e z5 ⟨rfl, Y5, rfl⟩) | (go_at_call 32; (with_reducible refine (HN.out _ (by (try show Ex _ _); with_reducible repeat (first | exact ex_refl _ | assumption | refine ex_drewL ?_ | refine ex_appR ?_ _ | refine ex_wx ?_ _ | refine ex_drew ?_ | refine ex_alloc ?_ _))).mono ?_); rintro e w2 ⟨q, rfl, hD, X2, rfl⟩; replace hD := Lib.hid hD) | (go_at_call 8; (with_reducible refine (HFo.out _ (by (try show Ex _ _); with_reducible repeat (first | exact ex_refl _ | assumption | refine ex_drewL ?_ | refine ex_appR ?_ _ | refine ex_wx ?_ _ | refine ex_drew ?_ | refine ex_alloc ?_ _)) _ hD.out).mono ?_); intro e W1 hP; obtain ⟨p, rfl, hK1, hG1⟩ := hP.some; clear hP; replace hK1 := Kz.trans (Kz.ofEx (W := W) (by (try show Ex _ _); with_reducible repeat (first | exact ex_refl _ | assumption | refine ex_drewL ?_ | refine ex_appR ?_ _ | refine ex_wx ?_ _ | refine ex_drew ?_ | refine ex_alloc ?_ _))) hK1; have k1 := hK1.ex k0; replace hG1 := Lib.hid hG1) | (go_at_call 13; (with_reducible refine (HA3.out _ _ (by (try show Ex _ _); with_reducible repeat (first | exact ex_refl _ | assumption | refine ex_drewL ?_ | refine ex_appR ?_ _ | refine ex_wx ?_ _ | refine ex_drew ?_ | refine ex_alloc ?_ _)) _ _ (hG3.out.ex (by (try show Ex _ _); with_reducible repeat (first | exact ex_refl _ | assumption | refine ex_drewL ?_ | refine ex_appR ?_ _ | refine ex_wx ?_ _ | refine ex_drew ?_ | refine ex_alloc ?_ _))) (tyb_one (heap_alloc_at (by simp [go_sem])))).mono ?_); rintro e W4 ⟨rfl, hG4, hK4⟩; replace hK4 := Kz.trans (Kz.ofEx (W := W3) (by (try show Ex _ _); with_reducible repeat (first | exact ex_refl _ | assumption | refine ex_drewL ?_ | refine ex_appR ?_ _ | refine ex_wx ?_ _ | refine ex_drew ?_ | refine ex_alloc ?_ _))) hK4; have k4 := hK4.ex k3; replace hG4 := Lib.hid hG4) | (go_at_call 13; (with_reducible refine (HA2.out _ _ (by (try show Ex _ _); with_reducible repeat (first | exact ex_refl _ | assumption | refine ex_drewL ?_ | refine ex_appR ?_ _ | refine ex_wx ?_ _ | refine ex_drew ?_ | refine ex_alloc ?_ _)) _ _ (hG2.out.ex (by (try show Ex _ _); with_reducible repeat (first | exact ex_refl _ | assumption | refine ex_drewL ?_ | refine ex_appR ?_ _ | refine ex_wx ?_ _ | refine ex_drew ?_ | refine ex_alloc ?_ _))) (tyb_alloc _ (by simp) (by omega) (heap_alloc_at (by simp [go_sem])) (fun j hj => (by rw [zero_get _ _ hj]; simp [hj])))).mono ?_); rintro e W3 ⟨rfl, hG3, hK3⟩; replace hK3 := Kz.trans (Kz.ofEx (W := W2) (by (try show Ex _ _); with_reducible repeat (first | exact ex_refl _ | assumption | refine ex_drewL ?_ | refine ex_appR ?_ _ | refine ex_wx ?_ _ | refine ex_drew ?_ | refine ex_alloc ?_ _))) hK3; have k3 := hK3.ex k2; replace hG3 := Lib.hid hG3) | (go_at_call 13; (with_reducible refine (HA1.out _ _ (by (try show Ex _ _); with_reducible repeat (first | exact ex_refl _ | assumption | refine ex_drewL ?_ | refine ex_appR ?_ _ | refine ex_wx ?_ _ | refine ex_drew ?_ | refine ex_alloc ?_ _)) _ _ (hG1.out.ex (by (try show Ex _ _); with_reducible repeat (first | exact ex_refl _ | assumption | refine ex_drewL ?_ | refine ex_appR ?_ _ | refine ex_wx ?_ _ | refine ex_drew ?_ | refine ex_alloc ?_ _))) (tyb_alloc _ (by simp) (by omega) (heap_alloc_at (by simp [go_sem])) (fun j hj => (by rw [zero_get _ _ hj]; simp [hj])))).mono ?_); rintro e W2 ⟨rfl, hG2, hK2⟩; replace hK2 := Kz.trans (Kz.ofEx (W := W1) (by (try show Ex _ _); with_reducible repeat (first | exact ex_refl _ | assumption | refine ex_drewL ?_ | refine ex_appR ?_ _ | refine ex_wx ?_ _ | refine ex_drew ?_ | refine ex_alloc ?_ _))) hK2; have k2 := hK2.ex k1; replace hG2 := Lib.hid hG2))
  go_ret
  exact ⟨rfl, hK1.trans (hK2.trans (hK3.trans (hK4.trans (hK5.trans (hK7.trans (Kz.ofEx (by (try show Ex _ _); with_reducible repeat (first | exact ex_refl _ | assumption | refine ex_drewL ?_ | refine ex_appR ?_ _ | refine ex_wx ?_ _ | refine ex_drew ?_ | refine ex_alloc ?_ _))))))))⟩
end Go.Proofs.YtabjamkkhlbajaaDoor

/- WalNothing: what nothing tells. -/
set_option linter.unusedSimpArgs false
set_option linter.unusedVariables false
set_option maxRecDepth 20000
namespace Go.Proofs.YtabjamkkhlbajaaDoor
open Go.RowKit
attribute [local go_sem] Oper.semAt_some
end Go.Proofs.YtabjamkkhlbajaaDoor

/- The log's laws: how the rows' data open. -/
set_option linter.unusedSimpArgs false
set_option linter.unusedVariables false
set_option linter.unnecessarySimpa false
set_option maxRecDepth 20000
namespace Go.Proofs.YtabjamkkhlbajaaDoor
open Go.RowKit Go.ChangeShapes Go.WideShapes Go.ChangeAt
def listF (n : Nat) (f : Nat → UInt8) : List UInt8 := (List.range n).map f
theorem listF_len (n : Nat) (f : Nat → UInt8) : (listF n f).length = n := by simp [listF]
theorem listF_at (n : Nat) (f : Nat → UInt8) (i : Nat) (h : i < n) : gF (listF n f) i = f i := by
  unfold gF listF; rw [List.getD_eq_getElem?_getD, List.getElem?_map, List.getElem?_range h]; rfl
theorem slt_of_ok {e : SlE} {w : World} (h : e.ok w) : SlT w e.v (listF e.n e.f) := by
  refine ⟨e.a, e.c, by rw [listF_len]; rfl, by rw [listF_len]; exact h.nc, h.cm, h.nil, ?_⟩
  unfold SlL
  rw [listF_len]
  exact SlB.congr h.at' fun i hi => (listF_at _ _ i hi).symm
def mkL {α : Type} (n : Nat) (E : Nat → α) : List α := (List.range n).map E
theorem mkL_len {α : Type} (n : Nat) (E : Nat → α) : (mkL n E).length = n := by simp [mkL]
theorem mkL_get {α : Type} {n : Nat} {E : Nat → α} {i : Nat} {e : α} (h : (mkL n E)[i]? = some e) : i < n ∧ E i = e := by
  have hi : i < n := by
    have := (List.getElem?_eq_some_iff.1 h).1
    rwa [mkL_len] at this
  unfold mkL at h
  rw [List.getElem?_map, List.getElem?_range hi] at h
  exact ⟨hi, by simpa using h⟩
/-- Rows of bytes that a law is given. -/
structure SlBs (w : World) (v : Value) (ls : List By) : Prop where
  out : ∃ a c, v = .slice a ls.length c ∧ ls.length ≤ c ∧ c ≤ maxLen ∧ (ls = [] ∨ ∃ g off, a = some ⟨g, off, none⟩ ∧ g < w.heap.size ∧ ∀ (i : Nat) (b : By), ls[i]? = some b → ∃ u, w.cell? ⟨g, off + i, none⟩ = some u ∧ SlT w u b)
section
variable {H : Type} {enc : TypeId × Value → H} {w : World} {base : Nat} {sp : Nat → Bool} {held : Bool}
theorem c1rb : Tryd.prog.cellsOf 22 = 1 := by kernel_rfl
theorem argInt {b0 : Nat} {r : Reach} {v : Value} {d : DataW H} {p : List MemPlace} (h : Value.okWide Tryd.prog w r b0 3 v) (hd : DataW.Trod enc Tryd.prog w base sp held 3 v d p) : ∃ n : Int, v = I n ∧ -9223372036854775808 ≤ n ∧ n < 9223372036854775808 := by
  obtain ⟨n, rfl, _, _, hw⟩ := open_int Tryd.underlying3 h hd
  simp only [Lit.wf, Bool.and_eq_true, decide_eq_true_eq] at hw
  simp [IntKind.min, IntKind.max, IntKind.bits, IntKind.signed] at hw
  exact ⟨n, rfl, by omega, by omega⟩
theorem argRows {b0 : Nat} {r : Reach} {v : Value} {d : DataW H} {p : List MemPlace} (h : Value.okWide Tryd.prog w r b0 30 v) (hd : DataW.Trod enc Tryd.prog w base sp held 30 v d p) : ∃ ls, SlBs w v ls := by
  obtain ⟨fuel, x, hx⟩ := arg_slice Tryd.underlying30 h hd
  obtain ⟨a, n, c, E, hv, h1, h2, h3, h4, h5⟩ := rows_open Tryd.underlying30 Tryd.underlying22 Tryd.underlying5 c1rb cb hx
  obtain rfl : v = .slice a n c := by simpa using hv
  refine ⟨mkL n fun i => listF (E i).n (E i).f, ⟨a, c, by rw [mkL_len], by rw [mkL_len]; exact h1, h2, ?_⟩⟩
  rcases h4.out with rfl | ⟨g, off, h6, h7, h8⟩
  · exact Or.inl rfl
  · refine Or.inr ⟨g, off, h6, h7, fun i b hb => ?_⟩
    obtain ⟨hi, rfl⟩ := mkL_get hb
    exact ⟨_, h8 i hi, slt_of_ok (h5 i hi)⟩
end
end Go.Proofs.YtabjamkkhlbajaaDoor

/- WalSides: what it does. -/
set_option linter.unusedSimpArgs false
set_option linter.unusedVariables false
set_option maxRecDepth 20000
namespace Go.Proofs.YtabjamkkhlbajaaDoor
open Go.RowKit
attribute [local go_sem] Oper.semAt_some
theorem LogI.lens {d : Dk} {wl : Wl} {l : List By} {T U : Nat} (h : LogI HW d wl l T U) : 0 < l.length ∧ l.length ≤ 1000 ∧ ∀ b ∈ l, b.length ≤ 50000 := by
  obtain ⟨hs, rfl, hl, ht, hu⟩ := h
  have hk := hs.hI.ok
  have ok := hs.lg
  refine ⟨ok.a1, ok.an, fun b hb => ?_⟩
  have hn : wl.c.n ≤ 10 := by have := hk.n3; omega
  have h1 := hk.un
  have h2 := hk.u
  obtain ⟨s, t, e⟩ := List.append_of_mem hb
  have h3 : (wl.sh.flatMap sheetB).length = (s.flatMap sheetB).length + ((sheetB b).length + (t.flatMap sheetB).length) := by rw [e]; simp
  have h4 := sheetB_len b
  unfold secs at h4
  omega
/-- What WalSides keeps. -/
structure SideI (w0 : World) (p q k : Nat) (v : Value) (W : World) : Prop where
  out : ∃ d wl L, LgZ w0.heap.size W p q d wl ∧ LogI HW d wl L (k + 1) (7 + 11 * k) ∧ Calm d ∧ wl.c.n = 10 ∧ SlSh W v L
  ex : Ex w0 W
theorem bg_side {w0 W W' : World} {p q : Nat} {d : Dk} {g : Nat} {fr : Nat × Nat} (hG : LgZ w0.heap.size W p q d bgL) (hI : LogI HW d bgL [[]] 1 7) (hC : Calm d) (k : Ex W W') (k0 : Ex w0 W') (hb : W'.heap[g]? = some (.cells #[.slice none 0 0] 22 fr)) : SideI w0 p q 0 (.slice (some ⟨g, 0, none⟩) 1 1) W' :=
  ⟨⟨d, bgL, [[]], hG.ex k, hI, hC, rfl, ⟨_, 1, rfl, Nat.le_refl _, by decide, (fun e => by cases e), Or.inr ⟨g, 0, _, fr, rfl, hb, fun j l hj => by
    cases j with
    | zero => simp at hj; subst hj; exact ⟨_, rfl, tyb_nil _⟩
    | succ j => simp at hj⟩⟩⟩, k0⟩
theorem ev_bounds (n : Int) : 1 ≤ wrap64 (wrap64 ((IntKind.u64.wrap n).tmod 5) + 1) ∧ wrap64 (wrap64 ((IntKind.u64.wrap n).tmod 5) + 1) ≤ 5 := by
  have h0 : 0 ≤ IntKind.u64.wrap n := by simp [IntKind.wrap, IntKind.bits, IntKind.signed]; omega
  rw [Int.tmod_eq_emod_of_nonneg h0]
  generalize IntKind.u64.wrap n = u at *
  unfold wrap64
  omega
theorem ex_setN {w w' : World} (h : Ex w w') {b : Nat} (hb : w.heap.size ≤ b) (o : Nat) (v : Value) : Ex w (w'.setCell ⟨b, o, none⟩ v) := by
  have k := ex_below h
  refine ex_of_below ⟨k.os, k.tape, k.output, by simpa [World.setCell] using k.size, fun x hx => ?_⟩
  rw [setCell_heap v (by omega)]
  exact k.block x hx
theorem set_box {w : World} {b : Nat} {kd n : Int} {dv kv v : Value} {t : TypeId} (h : w.heap[b]? = some (.cells #[I kd, I n, dv, kv] t (0, 0))) : (w.setCell ⟨b, 0, none⟩ v).heap[b]? = some (.cells #[v, I n, dv, kv] t (0, 0)) := by
  have := setCells_block b t (0, 0) [v] 0 w #[I kd, I n, dv, kv] h
  exact this
theorem box_cells {w : World} {b : Nat} {u0 u1 u2 u3 : Value} {t : TypeId} (h : w.heap[b]? = some (.cells #[u0, u1, u2, u3] t (0, 0))) : w.cell? ⟨b, 0, none⟩ = some u0 ∧ w.cell? ⟨b, 1, none⟩ = some u1 ∧ w.cell? ⟨b, 2, none⟩ = some u2 ∧ w.cell? ⟨b, 3, none⟩ = some u3 ∧ b < w.heap.size :=
  ⟨by rw [cell_of_row w b 0 _ _ _ h]; rfl, by rw [cell_of_row w b 1 _ _ _ h]; rfl, by rw [cell_of_row w b 2 _ _ _ h]; rfl, by rw [cell_of_row w b 3 _ _ _ h]; rfl, (Array.getElem?_eq_some_iff.1 h).1⟩
theorem tz_step : ¬ Tz 45 := by unfold Tz; decide
set_option maxHeartbeats 1000000 in
theorem sides_any {W : World} (G : Glob W) (v : Value) (ls : List By) (hv : SlBs W v ls) (n : Int) (h1 : -9223372036854775808 ≤ n) (h2 : n < 9223372036854775808) : Calls Tryd.prog 4 #[v, I n] W (fun e W' => e = .returned (.bool true) ∧ Ex W W') := by
  obtain ⟨a, c, rfl, s1, s2, hrow⟩ := hv.out
  have HR := Lib.hid hrow
  have HW := Lib.hid (wakes_z G (ex_refl W))
  have HB := Lib.hid (fun W' (x : Ex W W') => begun_z G x)
  unfold maxLen at s2
  clear hv hrow
  obtain ⟨m, hm⟩ : ∃ m, ls.length = m := ⟨_, rfl⟩
  have Hm := Lib.hid hm
  rw [hm] at s1 ⊢
  clear hm
  go_enter Tryd.func4, Tryd.ntmps4
  go_wp2_with (first | (go_at_call 7; (with_reducible refine HW.out.mono ?_); rintro e W1 ⟨rfl, hK⟩; obtain ⟨X1, rfl⟩ := hK.ex (ex_refl W); clear hK) | (go_at_call 21; (with_reducible refine (HB.out _ (by (try show Ex _ _); with_reducible repeat (first | exact ex_refl _ | assumption | refine ex_drewL ?_ | refine ex_appR ?_ _ | refine ex_wx ?_ _ | refine ex_drew ?_ | refine ex_alloc ?_ _))).mono ?_); rintro e W2 ⟨p, q, d, rfl, hG, hK, hI, hC⟩; have k2 := hK.ex (w0 := W) (by (try show Ex _ _); with_reducible repeat (first | exact ex_refl _ | assumption | refine ex_drewL ?_ | refine ex_appR ?_ _ | refine ex_wx ?_ _ | refine ex_drew ?_ | refine ex_alloc ?_ _)); clear hK HB HW; replace hG := Lib.hid hG; replace hI := Lib.hid hI; replace hC := Lib.hid hC))
  obtain ⟨ev, hev⟩ : ∃ ev, wrap64 (wrap64 ((IntKind.u64.wrap n).tmod 5) + 1) = ev := ⟨_, rfl⟩
  have he1 : 1 ≤ ev ∧ ev ≤ 5 := by rw [← hev]; exact ev_bounds n
  rw [hev]
  have hS0 := Lib.hid (bg_side hG.out hI.out hC.out (ex_alloc (ex_refl W2) (.cells #[.slice none 0 0] 22)) (ex_alloc k2 _) (heap_alloc_new _ _))
  clear hG hI hC
  go_loopw [6, 30] (fun v i Wr => ∃ k : Nat, k ≤ m ∧ k ≤ 40 ∧ i = I k ∧ Hid (SideI W p q k v Wr)) (fun _ i _ => m - (intOf i).toNat)
  case atStart => exact ⟨0, by omega, by omega, rfl, hS0⟩
  case round =>
    obtain ⟨k, hk, hk40, rfl, HS⟩ := hrel
    obtain ⟨⟨d, wl, L, hG, hI, hC, hn10, hSv⟩, hX⟩ := HS.out
    replace hG := Lib.hid hG
    replace hI := Lib.hid hI
    replace hC := Lib.hid hC
    replace hSv := Lib.hid hSv
    clear HS hS0
    by_cases hlt : k < m
    · obtain ⟨b, hb⟩ : ∃ b, ls[k]? = some b := ⟨_, List.getElem?_eq_getElem (by rw [Hm.out]; exact hlt)⟩
      rcases HR.out with h0 | ⟨g, off, rfl, hg, hcell⟩
      · rw [h0] at hb; simp at hb
      obtain ⟨u, hu, hT⟩ := hcell k b hb
      have hu2 : wr.cell? ⟨g, off + k, none⟩ = some u := by rw [(ex_below hX).cell (p := ⟨g, off + k, none⟩) hg]; exact hu
      have hgz := Nat.lt_of_lt_of_le hg (ex_size hX)
      have hone : u.oneCell' = true := by obtain ⟨ua, uc, rfl, _⟩ := hT.out; rfl
      by_cases h40 : k = 40
      · subst h40
        clear hT hcell hu
        have hL6 : L.length ≤ 1000000 := by have := hI.out.lens; omega
        have hsh : wl.sh = L := hI.out.sh
        obtain ⟨av, cv, rfl, _⟩ := id hSv.out.out
        have HTo : Hid (Calls Tryd.prog 25 #[PT p] wr (PostTo wr L)) := Lib.hid (by
          obtain ⟨q1, q2, q3⟩ := hI.out.lens
          rw [← hsh] at q1 q2 q3 ⊢
          exact told_z hG.out q1 q2 q3)
        obtain ⟨d8, hO8, hI8⟩ : ∃ d8, openD HW d = (d8, some ⟨upC wl.c, L, false⟩, 0) ∧ Hid (LogI HW d8 ⟨upC wl.c, L, false⟩ L (40 + 2) (7 + 11 * 40 + 14)) := by
          obtain ⟨hs, rfl, hl, ht, hu⟩ := hI.out
          obtain ⟨d8, j1, j2, j3, j4, j5, j6⟩ := open_known HW_len hC.out (by rw [hs.qu]; simp) (by rw [img_nil hs.qu]; exact hs.hI) (by omega)
          have := hs.hI.ok.un
          exact ⟨d8, j1, Lib.hid ⟨⟨rfl, j3, j4⟩, rfl, by rw [j6, hl], by show wl.c.turn + 1 ≤ _; omega, by omega⟩⟩
        have HO := Lib.hid (fun W' (x : Ex wr W') => open_z G (ex_trans hX x) (hG.out.ex x).dk (by have := hI.out.u; omega) (by rw [hI.out.still.qu]; simp))
        rw [hO8] at HO
        have HTo2 : Hid (∀ W' p8 q8, LgZ W.heap.size W' p8 q8 d8 ⟨upC wl.c, L, false⟩ → Calls Tryd.prog 25 #[PT p8] W' (PostTo W' L)) := Lib.hid (fun W' p8 q8 h8 => by
          obtain ⟨q1, q2, q3⟩ := hI.out.lens
          exact told_z h8 q1 q2 q3)
        clear hO8 hI8
        go_wp2_with (first | (go_at_call 25; go_loud (with_reducible refine (HTo2.out _ _ _ (hG8.out.ex (by (try show Ex _ _); with_reducible repeat (first | exact ex_refl _ | assumption | refine ex_drewL ?_ | refine ex_appR ?_ _ | refine ex_wx ?_ _ | refine ex_drew ?_ | refine ex_alloc ?_ _)))).mono ?_); rintro e W9 ⟨v9, rfl, hS9, X9, rfl⟩; (try simp only [wx_wx] at hS9); obtain ⟨a9, c9, rfl, _⟩ := hS9.out; replace hS9 := Lib.hid hS9) | (go_at_call 25; go_loud (with_reducible refine HTo.out.mono ?_); rintro e W7 ⟨v7, rfl, hS7, X7, rfl⟩; obtain ⟨a7, c7, rfl, _⟩ := hS7.out; replace hS7 := Lib.hid hS7) | (go_at_call 20; (with_reducible refine (disk_z (hG.out.ex (by (try show Ex _ _); with_reducible repeat (first | exact ex_refl _ | assumption | refine ex_drewL ?_ | refine ex_appR ?_ _ | refine ex_wx ?_ _ | refine ex_drew ?_ | refine ex_alloc ?_ _)))).mono ?_); rintro e W7 ⟨rfl, Y7, rfl⟩) | (go_at_call 9; go_loud (with_reducible refine (HO.out _ (by (try show Ex _ _); with_reducible repeat (first | exact ex_refl _ | assumption | refine ex_drewL ?_ | refine ex_appR ?_ _ | refine ex_wx ?_ _ | refine ex_drew ?_ | refine ex_alloc ?_ _))).mono ?_); intro e W8 hP; obtain ⟨p8, rfl, hK8, hG8⟩ := hP.some; clear hP; have hS78 := Lib.hid (hS7.out.ky (Ky.trans (Ky.ex (by (try show Ex _ _); with_reducible repeat (first | exact ex_refl _ | assumption | refine ex_drewL ?_ | refine ex_appR ?_ _ | refine ex_wx ?_ _ | refine ex_drew ?_ | refine ex_alloc ?_ _))) hK8.ky)); replace hK8 := Kz.trans (Kz.ofEx (W := wr) (by (try show Ex _ _); with_reducible repeat (first | exact ex_refl _ | assumption | refine ex_drewL ?_ | refine ex_appR ?_ _ | refine ex_wx ?_ _ | refine ex_drew ?_ | refine ex_alloc ?_ _))) hK8; have k8 := hK8.ex (w0 := W) hX; have hSv8 := Lib.hid (hSv.out.ky hK8.ky); replace hG8 := Lib.hid hG8; clear hS7) | (go_at_call 26; go_loud (with_reducible refine (same_z L L _ _ _ (hS9.out.ky (Ky.ex (by (try show Ex _ _); with_reducible repeat (first | exact ex_refl _ | assumption | refine ex_drewL ?_ | refine ex_appR ?_ _ | refine ex_wx ?_ _ | refine ex_drew ?_ | refine ex_alloc ?_ _)))) (hSv8.out.ky (Ky.ex (by (try show Ex _ _); with_reducible repeat (first | exact ex_refl _ | assumption | refine ex_drewL ?_ | refine ex_appR ?_ _ | refine ex_wx ?_ _ | refine ex_drew ?_ | refine ex_alloc ?_ _)))) hL6 hL6).mono ?_); rintro e z ⟨rfl, Y, rfl⟩; (try simp only [decide_true])) | (go_at_call 26; go_loud (with_reducible refine (same_z L L _ _ _ (hS78.out.ky (Ky.ex (by (try show Ex _ _); with_reducible repeat (first | exact ex_refl _ | assumption | refine ex_drewL ?_ | refine ex_appR ?_ _ | refine ex_wx ?_ _ | refine ex_drew ?_ | refine ex_alloc ?_ _)))) (hSv8.out.ky (Ky.ex (by (try show Ex _ _); with_reducible repeat (first | exact ex_refl _ | assumption | refine ex_drewL ?_ | refine ex_appR ?_ _ | refine ex_wx ?_ _ | refine ex_drew ?_ | refine ex_alloc ?_ _)))) hL6 hL6).mono ?_); rintro e z ⟨rfl, Y, rfl⟩; (try simp only [decide_true])))
        go_ret
        exact ⟨rfl, (by (try show Ex _ _); with_reducible repeat (first | exact ex_refl _ | assumption | refine ex_drewL ?_ | refine ex_appR ?_ _ | refine ex_wx ?_ _ | refine ex_drew ?_ | refine ex_alloc ?_ _))⟩
      · have HT := Lib.hid hT
        obtain ⟨lx, hlx⟩ : ∃ lx, b.take 500 = lx := ⟨_, rfl⟩
        have hl5 : lx.length ≤ 500 := by rw [← hlx, List.length_take]; omega
        have HD := Lib.hid (fun W' kd (x : Ex W W') => data_any kd 0 (kv := .slice none 0 0) (hT.ex x) rfl)
        have HDo := Lib.hid (fun kf W' (x : Ex W W') (h : LgZ W.heap.size W' p q d wl) => does_z G x h hI.out.still.lg kf 0 (kv := .slice none 0 0) (hT.ex x) rfl (by have := hI.out.u; omega) (by rw [hI.out.still.qu]; simp))
        have HNx := Lib.hid (fun kf W' v' (x : Ex W W') (h : SlSh W' v' L) => next_z kf 0 (kv := .slice none 0 0) (hT.ex x) rfl h hI.out.lens.1 (by have := hI.out.lens; omega))
        rw [hlx] at HD HDo HNx
        obtain ⟨ua, uc, rfl, _⟩ := hT.out
        generalize b.length = bl at *
        unfold StR at HD HDo HNx
        obtain ⟨sx, hsx⟩ : ∃ sx, secs lx.length = sx := ⟨_, rfl⟩
        have hs8 : sx ≤ 8 := by rw [← hsx]; exact secs_500 hl5
        have HSe : Hid (∀ W', Calls Tryd.prog 10 #[I (lx.length : Nat)] W' (Post W' (I (sx : Nat)))) := Lib.hid fun W' => by
          have := sectors_any (lx.length : Nat) (by omega) (by omega) W'
          rw [secI_nat (by omega), hsx] at this
          exact this
        obtain ⟨lf, hlf⟩ : ∃ lf : Int, (10 : Int) - wl.c.used = lf := ⟨_, rfl⟩
        have hun := hI.out.still.lg.un
        have hl0 : 0 ≤ lf ∧ lf ≤ 10 := by omega
        have HLe : Hid (∀ W', Ex wr W' → Calls Tryd.prog 17 #[PT p] W' (Post W' (I lf))) := Lib.hid fun W' x => by
          have := left_z (hG.out.ex x) hI.out.still.lg
          rw [hn10] at this
          rw [← hlf]
          exact this
        have HTu := Lib.hid (fun W' (x : Ex wr W') => turn_z (hG.out.ex x))
        have htt := hI.out.t
        obtain ⟨tn, htn⟩ : ∃ tn, wl.c.turn = tn := ⟨_, rfl⟩
        rw [htn] at HTu htt
        clear hu hT hcell hlx
        have hev0 : ¬ ev = 0 := by omega
        have h40i : ¬ ((k : Int) = 40) := by omega
        by_cases c1 : lf < sx
        · have e1 : decide (lf < (sx : Nat)) = true := decide_eq_true c1
          obtain ⟨c', d', hput, t1, t2, t3, hC', hI'⟩ : ∃ c' d', putK HW true d wl lx = (d', ⟨c', nextL true L lx, false⟩, 0) ∧ c'.turn = tn + 1 ∧ c'.n = 10 ∧ (c'.used : Int) = 0 + sx ∧ Calm d' ∧ LogI HW d' ⟨c', nextL true L lx, false⟩ (nextL true L lx) (k + 1 + 1) (7 + 11 * (k + 1)) := by
            rcases put_calm HW_len hI.out hC.out true lx hl5 (by omega) with ⟨h, _⟩ | ⟨_, c', d', q1, q2, q3, q4, q5, q6⟩
            · exfalso
              rw [hsx, hn10] at h
              simp at h
              omega
            · refine ⟨c', d', q1, by rw [q2, htn], by rw [q3, hn10], ?_, q5, q6.le (by omega) (by omega)⟩
              rw [q4, hsx]
              simp
              try omega
          have HDK : Hid (∀ W', Ex W W' → LgZ W.heap.size W' p q d wl → Calls Tryd.prog 23 #[.agg #[I 5, I 0, .slice ua bl uc, .slice none 0 0], PT p] W' (PostLz W.heap.size W' p q (d', ⟨c', nextL true L lx, false⟩, 0))) := Lib.hid fun W' x h => by
            have := HDo.out 5 W' x h
            rw [show decide ((5 : Int) = 5) = true from rfl, hput] at this
            exact this
          have HNK : Hid (∀ W' v', Ex W W' → SlSh W' v' L → Calls Tryd.prog 24 #[.agg #[I 5, I 0, .slice ua bl uc, .slice none 0 0], v'] W' (PostSh W' (nextL true L lx))) := Lib.hid fun W' v' x h => by
            have := HNx.out 5 W' v' x h
            rw [show decide ((5 : Int) = 5) = true from rfl] at this
            exact this
          have HTu2 : Hid (∀ W', LgZ W.heap.size W' p q d' ⟨c', nextL true L lx, false⟩ → Calls Tryd.prog 18 #[PT p] W' (Post W' (.int .u32 ((tn : Int) + 1)))) := Lib.hid fun W' h => by
            have := turn_z h
            have e : ((c'.turn : Nat) : Int) = (tn : Int) + 1 := by omega
            unfold U4 at this
            rw [← e]
            exact this
          have HLe2 : Hid (∀ W', LgZ W.heap.size W' p q d' ⟨c', nextL true L lx, false⟩ → Calls Tryd.prog 17 #[PT p] W' (Post W' (I ((10 : Int) - (sx : Nat))))) := Lib.hid fun W' h => by
            have := left_z h hI'.still.lg
            have e : ((c'.n : Nat) : Int) - c'.used = (10 : Int) - (sx : Nat) := by omega
            rw [← e]
            exact this
          replace hI' := Lib.hid hI'
          replace hC' := Lib.hid hC'
          have T2 := Lib.hid t2
          obtain ⟨L', hL'⟩ : ∃ L', nextL true L lx = L' := ⟨_, rfl⟩
          rw [hL'] at hI' HDK HNK HTu2 HLe2
          obtain ⟨wl', hwl'⟩ : ∃ wl' : Wl, ⟨c', L', false⟩ = wl' := ⟨_, rfl⟩
          have T3 : wl'.c.n = 10 := by rw [← hwl']; exact t2
          rw [hwl'] at hI' HDK HTu2 HLe2
          obtain ⟨av, cv, rfl, _⟩ := id hSv.out.out
          clear hput hL' hwl' T2 t1 t2 t3 HDo HNx htn hsx
          go_wp2_with (first | (go_at_call 22; (with_reducible refine (HD.out _ _ (by (try show Ex _ _); with_reducible repeat (first | exact ex_refl _ | assumption | refine ex_drewL ?_ | refine ex_appR ?_ _ | refine ex_wx ?_ _ | refine ex_drew ?_ | refine ex_alloc ?_ _))).mono ?_); rintro e W4 ⟨u4, rfl, hT4, X4, hX4⟩; have x4 : Ex (wr.alloc (.cells #[I 6, I 0, .slice ua bl uc, .slice none 0 0] 45)) W4 := ⟨X4, hX4⟩; have hb4 := ex_block x4 (heap_alloc_new _ _); obtain ⟨ta, tc, rfl, _⟩ := hT4.out; have y4 : Ex wr W4 := ex_trans (ex_alloc (ex_refl _) _) x4; obtain ⟨c40, c41, c42, c43, z4⟩ := box_cells hb4; clear hT4 hX4 x4) | (go_at_call 10; (with_reducible refine (HSe.out _).mono ?_); rintro e z ⟨rfl, Y5, rfl⟩) | (go_at_call 17; (with_reducible refine (HLe2.out _ (hG9.out.ex (by (try show Ex _ _); with_reducible repeat (first | exact ex_refl _ | assumption | refine ex_drewL ?_ | refine ex_appR ?_ _ | refine ex_wx ?_ _ | refine ex_drew ?_ | refine ex_alloc ?_ _)))).mono ?_); rintro e z ⟨rfl, Y9, rfl⟩) | (go_at_call 17; (with_reducible refine (HLe.out _ (ex_setN y5 (Nat.le_refl _) _ _)).mono ?_); rintro e W6 ⟨rfl, hx6⟩; have hb6 := ex_block hx6 (set_box hb5); have y6 : Ex wr W6 := ex_trans (ex_setN y5 (Nat.le_refl _) _ _) hx6; have yw6 := ex_trans hX y6; obtain ⟨c60, c61, c62, c63, z6⟩ := box_cells hb6; clear hx6) | (go_at_call 17; (with_reducible refine (HLe.out _ (by (try show Ex _ _); with_reducible repeat (first | exact ex_refl _ | assumption | refine ex_drewL ?_ | refine ex_appR ?_ _ | refine ex_wx ?_ _ | refine ex_drew ?_ | refine ex_alloc ?_ _))).mono ?_); rintro e W5 ⟨rfl, hx5⟩; have x5 : Ex W4 W5 := ex_trans (by (try show Ex _ _); with_reducible repeat (first | exact ex_refl _ | assumption | refine ex_drewL ?_ | refine ex_appR ?_ _ | refine ex_wx ?_ _ | refine ex_drew ?_ | refine ex_alloc ?_ _)) hx5; have hb5 := ex_block x5 hb4; have y5 : Ex wr W5 := ex_trans y4 x5; obtain ⟨c50, c51, c52, c53, z5⟩ := box_cells hb5; have f5 := block_cellF (o := 0) hb5 rfl; clear hx5 x5 hb4 c40 c41 c42 c43) | (go_at_call 18; (with_reducible refine (HTu2.out _ (hG8.out.ex (by (try show Ex _ _); with_reducible repeat (first | exact ex_refl _ | assumption | refine ex_drewL ?_ | refine ex_appR ?_ _ | refine ex_wx ?_ _ | refine ex_drew ?_ | refine ex_alloc ?_ _)))).mono ?_); rintro e z ⟨rfl, Y8, rfl⟩) | (go_at_call 18; (with_reducible refine (HTu.out _ (by (try show Ex _ _); with_reducible repeat (first | exact ex_refl _ | assumption | refine ex_drewL ?_ | refine ex_appR ?_ _ | refine ex_wx ?_ _ | refine ex_drew ?_ | refine ex_alloc ?_ _))).mono ?_); rintro e z ⟨rfl, Y7, rfl⟩) | (go_at_call 23; (with_reducible refine (HDK.out _ (by (try show Ex _ _); with_reducible repeat (first | exact ex_refl _ | assumption | refine ex_drewL ?_ | refine ex_appR ?_ _ | refine ex_wx ?_ _ | refine ex_drew ?_ | refine ex_alloc ?_ _)) (hG.out.ex (by (try show Ex _ _); with_reducible repeat (first | exact ex_refl _ | assumption | refine ex_drewL ?_ | refine ex_appR ?_ _ | refine ex_wx ?_ _ | refine ex_drew ?_ | refine ex_alloc ?_ _)))).mono ?_); rintro e W8 ⟨rfl, hG8, hK8⟩; replace hK8 := Kz.trans (Kz.ofEx (W := W6) (by (try show Ex _ _); with_reducible repeat (first | exact ex_refl _ | assumption | refine ex_drewL ?_ | refine ex_appR ?_ _ | refine ex_wx ?_ _ | refine ex_drew ?_ | refine ex_alloc ?_ _))) hK8; have hb8 := hK8.ty _ _ _ _ hb6 tz_step; have yw8 := hK8.ex (w0 := W) yw6; have hSv8 := Lib.hid (hSv.out.ky (Ky.trans (Ky.ex y6) hK8.ky)); obtain ⟨c80, c81, c82, c83, z8⟩ := box_cells hb8; replace hG8 := Lib.hid hG8; clear hK8 hb6 c60 c61 c62 c63) | (go_at_call 24; (with_reducible refine (HNK.out _ _ (by (try show Ex _ _); with_reducible repeat (first | exact ex_refl _ | assumption | refine ex_drewL ?_ | refine ex_appR ?_ _ | refine ex_wx ?_ _ | refine ex_drew ?_ | refine ex_alloc ?_ _)) (hSv8.out.ky (Ky.ex (by (try show Ex _ _); with_reducible repeat (first | exact ex_refl _ | assumption | refine ex_drewL ?_ | refine ex_appR ?_ _ | refine ex_wx ?_ _ | refine ex_drew ?_ | refine ex_alloc ?_ _))))).mono ?_); rintro e W9 ⟨v9, rfl, hS9, hx9⟩; have x9 : Ex W8 W9 := ex_trans (by (try show Ex _ _); with_reducible repeat (first | exact ex_refl _ | assumption | refine ex_drewL ?_ | refine ex_appR ?_ _ | refine ex_wx ?_ _ | refine ex_drew ?_ | refine ex_alloc ?_ _)) hx9; have hb9 := ex_block x9 hb8; have yw9 := ex_trans yw8 x9; have hG9 := Lib.hid (hG8.out.ex x9); have c9 := block_cellF (o := 0) hb9 rfl; obtain ⟨a9, d9, rfl, _⟩ := id hS9.out; replace hS9 := Lib.hid hS9; clear hx9 x9 hb8 c80 c81 c82 c83 hSv8))
          exact ⟨⟨k + 1, by omega, by omega, by go_num, Lib.hid ⟨⟨d', wl', L', hG9.out.ex (by (try show Ex _ _); with_reducible repeat (first | exact ex_refl _ | assumption | refine ex_drewL ?_ | refine ex_appR ?_ _ | refine ex_wx ?_ _ | refine ex_drew ?_ | refine ex_alloc ?_ _)), hI'.out, hC'.out, T3, hS9.out.ky (Ky.ex (by (try show Ex _ _); with_reducible repeat (first | exact ex_refl _ | assumption | refine ex_drewL ?_ | refine ex_appR ?_ _ | refine ex_wx ?_ _ | refine ex_drew ?_ | refine ex_alloc ?_ _)))⟩, (by (try show Ex _ _); with_reducible repeat (first | exact ex_refl _ | assumption | refine ex_drewL ?_ | refine ex_appR ?_ _ | refine ex_wx ?_ _ | refine ex_drew ?_ | refine ex_alloc ?_ _))⟩⟩, by simp [intOf]; omega⟩
        · have e1 : decide (lf < (sx : Nat)) = false := decide_eq_false c1
          obtain ⟨rm, hrm⟩ : ∃ rm : Int, Int.tmod (k : Int) ev = rm := ⟨_, rfl⟩
          have hrm0 : 0 ≤ rm ∧ rm < 5 := by
            rw [← hrm, Int.tmod_eq_emod_of_nonneg (by omega)]
            have := Int.emod_nonneg (k : Int) hev0
            have := Int.emod_lt_of_pos (k : Int) (show 0 < ev by omega)
            omega
          by_cases c2 : rm = 0
          · subst c2
            obtain ⟨c', d', hput, t1, t2, t3, hC', hI'⟩ : ∃ c' d', putK HW true d wl lx = (d', ⟨c', nextL true L lx, false⟩, 0) ∧ c'.turn = tn + 1 ∧ c'.n = 10 ∧ (c'.used : Int) = 0 + sx ∧ Calm d' ∧ LogI HW d' ⟨c', nextL true L lx, false⟩ (nextL true L lx) (k + 1 + 1) (7 + 11 * (k + 1)) := by
              rcases put_calm HW_len hI.out hC.out true lx hl5 (by omega) with ⟨h, _⟩ | ⟨_, c', d', q1, q2, q3, q4, q5, q6⟩
              · exfalso
                rw [hsx, hn10] at h
                simp at h
                omega
              · refine ⟨c', d', q1, by rw [q2, htn], by rw [q3, hn10], ?_, q5, q6.le (by omega) (by omega)⟩
                rw [q4, hsx]
                simp
                try omega
            have HDK : Hid (∀ W', Ex W W' → LgZ W.heap.size W' p q d wl → Calls Tryd.prog 23 #[.agg #[I 5, I 0, .slice ua bl uc, .slice none 0 0], PT p] W' (PostLz W.heap.size W' p q (d', ⟨c', nextL true L lx, false⟩, 0))) := Lib.hid fun W' x h => by
              have := HDo.out 5 W' x h
              rw [show decide ((5 : Int) = 5) = true from rfl, hput] at this
              exact this
            have HNK : Hid (∀ W' v', Ex W W' → SlSh W' v' L → Calls Tryd.prog 24 #[.agg #[I 5, I 0, .slice ua bl uc, .slice none 0 0], v'] W' (PostSh W' (nextL true L lx))) := Lib.hid fun W' v' x h => by
              have := HNx.out 5 W' v' x h
              rw [show decide ((5 : Int) = 5) = true from rfl] at this
              exact this
            have HTu2 : Hid (∀ W', LgZ W.heap.size W' p q d' ⟨c', nextL true L lx, false⟩ → Calls Tryd.prog 18 #[PT p] W' (Post W' (.int .u32 ((tn : Int) + 1)))) := Lib.hid fun W' h => by
              have := turn_z h
              have e : ((c'.turn : Nat) : Int) = (tn : Int) + 1 := by omega
              unfold U4 at this
              rw [← e]
              exact this
            have HLe2 : Hid (∀ W', LgZ W.heap.size W' p q d' ⟨c', nextL true L lx, false⟩ → Calls Tryd.prog 17 #[PT p] W' (Post W' (I ((10 : Int) - (sx : Nat))))) := Lib.hid fun W' h => by
              have := left_z h hI'.still.lg
              have e : ((c'.n : Nat) : Int) - c'.used = (10 : Int) - (sx : Nat) := by omega
              rw [← e]
              exact this
            replace hI' := Lib.hid hI'
            replace hC' := Lib.hid hC'
            have T2 := Lib.hid t2
            obtain ⟨L', hL'⟩ : ∃ L', nextL true L lx = L' := ⟨_, rfl⟩
            rw [hL'] at hI' HDK HNK HTu2 HLe2
            obtain ⟨wl', hwl'⟩ : ∃ wl' : Wl, ⟨c', L', false⟩ = wl' := ⟨_, rfl⟩
            have T3 : wl'.c.n = 10 := by rw [← hwl']; exact t2
            rw [hwl'] at hI' HDK HTu2 HLe2
            obtain ⟨av, cv, rfl, _⟩ := id hSv.out.out
            clear hput hL' hwl' T2 t1 t2 t3 HDo HNx htn hsx
            go_wp2_with (first | (go_at_call 22; (with_reducible refine (HD.out _ _ (by (try show Ex _ _); with_reducible repeat (first | exact ex_refl _ | assumption | refine ex_drewL ?_ | refine ex_appR ?_ _ | refine ex_wx ?_ _ | refine ex_drew ?_ | refine ex_alloc ?_ _))).mono ?_); rintro e W4 ⟨u4, rfl, hT4, X4, hX4⟩; have x4 : Ex (wr.alloc (.cells #[I 6, I 0, .slice ua bl uc, .slice none 0 0] 45)) W4 := ⟨X4, hX4⟩; have hb4 := ex_block x4 (heap_alloc_new _ _); obtain ⟨ta, tc, rfl, _⟩ := hT4.out; have y4 : Ex wr W4 := ex_trans (ex_alloc (ex_refl _) _) x4; obtain ⟨c40, c41, c42, c43, z4⟩ := box_cells hb4; clear hT4 hX4 x4) | (go_at_call 10; (with_reducible refine (HSe.out _).mono ?_); rintro e z ⟨rfl, Y5, rfl⟩) | (go_at_call 17; (with_reducible refine (HLe2.out _ (hG9.out.ex (by (try show Ex _ _); with_reducible repeat (first | exact ex_refl _ | assumption | refine ex_drewL ?_ | refine ex_appR ?_ _ | refine ex_wx ?_ _ | refine ex_drew ?_ | refine ex_alloc ?_ _)))).mono ?_); rintro e z ⟨rfl, Y9, rfl⟩) | (go_at_call 17; (with_reducible refine (HLe.out _ (ex_setN y5 (Nat.le_refl _) _ _)).mono ?_); rintro e W6 ⟨rfl, hx6⟩; have hb6 := ex_block hx6 (set_box hb5); have y6 : Ex wr W6 := ex_trans (ex_setN y5 (Nat.le_refl _) _ _) hx6; have yw6 := ex_trans hX y6; obtain ⟨c60, c61, c62, c63, z6⟩ := box_cells hb6; clear hx6) | (go_at_call 17; (with_reducible refine (HLe.out _ (by (try show Ex _ _); with_reducible repeat (first | exact ex_refl _ | assumption | refine ex_drewL ?_ | refine ex_appR ?_ _ | refine ex_wx ?_ _ | refine ex_drew ?_ | refine ex_alloc ?_ _))).mono ?_); rintro e W5 ⟨rfl, hx5⟩; have x5 : Ex W4 W5 := ex_trans (by (try show Ex _ _); with_reducible repeat (first | exact ex_refl _ | assumption | refine ex_drewL ?_ | refine ex_appR ?_ _ | refine ex_wx ?_ _ | refine ex_drew ?_ | refine ex_alloc ?_ _)) hx5; have hb5 := ex_block x5 hb4; have y5 : Ex wr W5 := ex_trans y4 x5; obtain ⟨c50, c51, c52, c53, z5⟩ := box_cells hb5; have f5 := block_cellF (o := 0) hb5 rfl; clear hx5 x5 hb4 c40 c41 c42 c43) | (go_at_call 18; (with_reducible refine (HTu2.out _ (hG8.out.ex (by (try show Ex _ _); with_reducible repeat (first | exact ex_refl _ | assumption | refine ex_drewL ?_ | refine ex_appR ?_ _ | refine ex_wx ?_ _ | refine ex_drew ?_ | refine ex_alloc ?_ _)))).mono ?_); rintro e z ⟨rfl, Y8, rfl⟩) | (go_at_call 18; (with_reducible refine (HTu.out _ (by (try show Ex _ _); with_reducible repeat (first | exact ex_refl _ | assumption | refine ex_drewL ?_ | refine ex_appR ?_ _ | refine ex_wx ?_ _ | refine ex_drew ?_ | refine ex_alloc ?_ _))).mono ?_); rintro e z ⟨rfl, Y7, rfl⟩) | (go_at_call 23; (with_reducible refine (HDK.out _ (by (try show Ex _ _); with_reducible repeat (first | exact ex_refl _ | assumption | refine ex_drewL ?_ | refine ex_appR ?_ _ | refine ex_wx ?_ _ | refine ex_drew ?_ | refine ex_alloc ?_ _)) (hG.out.ex (by (try show Ex _ _); with_reducible repeat (first | exact ex_refl _ | assumption | refine ex_drewL ?_ | refine ex_appR ?_ _ | refine ex_wx ?_ _ | refine ex_drew ?_ | refine ex_alloc ?_ _)))).mono ?_); rintro e W8 ⟨rfl, hG8, hK8⟩; replace hK8 := Kz.trans (Kz.ofEx (W := W6) (by (try show Ex _ _); with_reducible repeat (first | exact ex_refl _ | assumption | refine ex_drewL ?_ | refine ex_appR ?_ _ | refine ex_wx ?_ _ | refine ex_drew ?_ | refine ex_alloc ?_ _))) hK8; have hb8 := hK8.ty _ _ _ _ hb6 tz_step; have yw8 := hK8.ex (w0 := W) yw6; have hSv8 := Lib.hid (hSv.out.ky (Ky.trans (Ky.ex y6) hK8.ky)); obtain ⟨c80, c81, c82, c83, z8⟩ := box_cells hb8; replace hG8 := Lib.hid hG8; clear hK8 hb6 c60 c61 c62 c63) | (go_at_call 24; (with_reducible refine (HNK.out _ _ (by (try show Ex _ _); with_reducible repeat (first | exact ex_refl _ | assumption | refine ex_drewL ?_ | refine ex_appR ?_ _ | refine ex_wx ?_ _ | refine ex_drew ?_ | refine ex_alloc ?_ _)) (hSv8.out.ky (Ky.ex (by (try show Ex _ _); with_reducible repeat (first | exact ex_refl _ | assumption | refine ex_drewL ?_ | refine ex_appR ?_ _ | refine ex_wx ?_ _ | refine ex_drew ?_ | refine ex_alloc ?_ _))))).mono ?_); rintro e W9 ⟨v9, rfl, hS9, hx9⟩; have x9 : Ex W8 W9 := ex_trans (by (try show Ex _ _); with_reducible repeat (first | exact ex_refl _ | assumption | refine ex_drewL ?_ | refine ex_appR ?_ _ | refine ex_wx ?_ _ | refine ex_drew ?_ | refine ex_alloc ?_ _)) hx9; have hb9 := ex_block x9 hb8; have yw9 := ex_trans yw8 x9; have hG9 := Lib.hid (hG8.out.ex x9); have c9 := block_cellF (o := 0) hb9 rfl; obtain ⟨a9, d9, rfl, _⟩ := id hS9.out; replace hS9 := Lib.hid hS9; clear hx9 x9 hb8 c80 c81 c82 c83 hSv8))
            exact ⟨⟨k + 1, by omega, by omega, by go_num, Lib.hid ⟨⟨d', wl', L', hG9.out.ex (by (try show Ex _ _); with_reducible repeat (first | exact ex_refl _ | assumption | refine ex_drewL ?_ | refine ex_appR ?_ _ | refine ex_wx ?_ _ | refine ex_drew ?_ | refine ex_alloc ?_ _)), hI'.out, hC'.out, T3, hS9.out.ky (Ky.ex (by (try show Ex _ _); with_reducible repeat (first | exact ex_refl _ | assumption | refine ex_drewL ?_ | refine ex_appR ?_ _ | refine ex_wx ?_ _ | refine ex_drew ?_ | refine ex_alloc ?_ _)))⟩, (by (try show Ex _ _); with_reducible repeat (first | exact ex_refl _ | assumption | refine ex_drewL ?_ | refine ex_appR ?_ _ | refine ex_wx ?_ _ | refine ex_drew ?_ | refine ex_alloc ?_ _))⟩⟩, by simp [intOf]; omega⟩
          · have e2 : decide (rm = 0) = false := decide_eq_false c2
            obtain ⟨c', d', hput, t1, t2, t3, hC', hI'⟩ : ∃ c' d', putK HW false d wl lx = (d', ⟨c', nextL false L lx, false⟩, 0) ∧ c'.turn = tn + 1 ∧ c'.n = 10 ∧ (c'.used : Int) = (10 - lf) + sx ∧ Calm d' ∧ LogI HW d' ⟨c', nextL false L lx, false⟩ (nextL false L lx) (k + 1 + 1) (7 + 11 * (k + 1)) := by
              rcases put_calm HW_len hI.out hC.out false lx hl5 (by omega) with ⟨h, _⟩ | ⟨_, c', d', q1, q2, q3, q4, q5, q6⟩
              · exfalso
                rw [hsx, hn10] at h
                simp at h
                omega
              · refine ⟨c', d', q1, by rw [q2, htn], by rw [q3, hn10], ?_, q5, q6.le (by omega) (by omega)⟩
                rw [q4, hsx]
                simp
                try omega
            have HDK : Hid (∀ W', Ex W W' → LgZ W.heap.size W' p q d wl → Calls Tryd.prog 23 #[.agg #[I 6, I 0, .slice ua bl uc, .slice none 0 0], PT p] W' (PostLz W.heap.size W' p q (d', ⟨c', nextL false L lx, false⟩, 0))) := Lib.hid fun W' x h => by
              have := HDo.out 6 W' x h
              rw [show decide ((6 : Int) = 5) = false from rfl, hput] at this
              exact this
            have HNK : Hid (∀ W' v', Ex W W' → SlSh W' v' L → Calls Tryd.prog 24 #[.agg #[I 6, I 0, .slice ua bl uc, .slice none 0 0], v'] W' (PostSh W' (nextL false L lx))) := Lib.hid fun W' v' x h => by
              have := HNx.out 6 W' v' x h
              rw [show decide ((6 : Int) = 5) = false from rfl] at this
              exact this
            have HTu2 : Hid (∀ W', LgZ W.heap.size W' p q d' ⟨c', nextL false L lx, false⟩ → Calls Tryd.prog 18 #[PT p] W' (Post W' (.int .u32 ((tn : Int) + 1)))) := Lib.hid fun W' h => by
              have := turn_z h
              have e : ((c'.turn : Nat) : Int) = (tn : Int) + 1 := by omega
              unfold U4 at this
              rw [← e]
              exact this
            have HLe2 : Hid (∀ W', LgZ W.heap.size W' p q d' ⟨c', nextL false L lx, false⟩ → Calls Tryd.prog 17 #[PT p] W' (Post W' (I (lf - (sx : Nat))))) := Lib.hid fun W' h => by
              have := left_z h hI'.still.lg
              have e : ((c'.n : Nat) : Int) - c'.used = lf - (sx : Nat) := by omega
              rw [← e]
              exact this
            replace hI' := Lib.hid hI'
            replace hC' := Lib.hid hC'
            have T2 := Lib.hid t2
            obtain ⟨L', hL'⟩ : ∃ L', nextL false L lx = L' := ⟨_, rfl⟩
            rw [hL'] at hI' HDK HNK HTu2 HLe2
            obtain ⟨wl', hwl'⟩ : ∃ wl' : Wl, ⟨c', L', false⟩ = wl' := ⟨_, rfl⟩
            have T3 : wl'.c.n = 10 := by rw [← hwl']; exact t2
            rw [hwl'] at hI' HDK HTu2 HLe2
            obtain ⟨av, cv, rfl, _⟩ := id hSv.out.out
            clear hput hL' hwl' T2 t1 t2 t3 HDo HNx htn hsx
            go_wp2_with (first | (go_at_call 22; (with_reducible refine (HD.out _ _ (by (try show Ex _ _); with_reducible repeat (first | exact ex_refl _ | assumption | refine ex_drewL ?_ | refine ex_appR ?_ _ | refine ex_wx ?_ _ | refine ex_drew ?_ | refine ex_alloc ?_ _))).mono ?_); rintro e W4 ⟨u4, rfl, hT4, X4, hX4⟩; have x4 : Ex (wr.alloc (.cells #[I 6, I 0, .slice ua bl uc, .slice none 0 0] 45)) W4 := ⟨X4, hX4⟩; have hb4 := ex_block x4 (heap_alloc_new _ _); obtain ⟨ta, tc, rfl, _⟩ := hT4.out; have y4 : Ex wr W4 := ex_trans (ex_alloc (ex_refl _) _) x4; obtain ⟨c40, c41, c42, c43, z4⟩ := box_cells hb4; clear hT4 hX4 x4) | (go_at_call 10; (with_reducible refine (HSe.out _).mono ?_); rintro e z ⟨rfl, Y5, rfl⟩) | (go_at_call 17; (with_reducible refine (HLe2.out _ (hG9.out.ex (by (try show Ex _ _); with_reducible repeat (first | exact ex_refl _ | assumption | refine ex_drewL ?_ | refine ex_appR ?_ _ | refine ex_wx ?_ _ | refine ex_drew ?_ | refine ex_alloc ?_ _)))).mono ?_); rintro e z ⟨rfl, Y9, rfl⟩) | (go_at_call 17; (with_reducible refine (HLe.out _ ((by (try show Ex _ _); with_reducible repeat (first | exact ex_refl _ | assumption | refine ex_drewL ?_ | refine ex_appR ?_ _ | refine ex_wx ?_ _ | refine ex_drew ?_ | refine ex_alloc ?_ _)))).mono ?_); rintro e W6 ⟨rfl, hx6⟩; have hb6 := ex_block hx6 (hb5); have y6 : Ex wr W6 := ex_trans (y5) hx6; have yw6 := ex_trans hX y6; obtain ⟨c60, c61, c62, c63, z6⟩ := box_cells hb6; clear hx6) | (go_at_call 17; (with_reducible refine (HLe.out _ (by (try show Ex _ _); with_reducible repeat (first | exact ex_refl _ | assumption | refine ex_drewL ?_ | refine ex_appR ?_ _ | refine ex_wx ?_ _ | refine ex_drew ?_ | refine ex_alloc ?_ _))).mono ?_); rintro e W5 ⟨rfl, hx5⟩; have x5 : Ex W4 W5 := ex_trans (by (try show Ex _ _); with_reducible repeat (first | exact ex_refl _ | assumption | refine ex_drewL ?_ | refine ex_appR ?_ _ | refine ex_wx ?_ _ | refine ex_drew ?_ | refine ex_alloc ?_ _)) hx5; have hb5 := ex_block x5 hb4; have y5 : Ex wr W5 := ex_trans y4 x5; obtain ⟨c50, c51, c52, c53, z5⟩ := box_cells hb5; have f5 := block_cellF (o := 0) hb5 rfl; clear hx5 x5 hb4 c40 c41 c42 c43) | (go_at_call 18; (with_reducible refine (HTu2.out _ (hG8.out.ex (by (try show Ex _ _); with_reducible repeat (first | exact ex_refl _ | assumption | refine ex_drewL ?_ | refine ex_appR ?_ _ | refine ex_wx ?_ _ | refine ex_drew ?_ | refine ex_alloc ?_ _)))).mono ?_); rintro e z ⟨rfl, Y8, rfl⟩) | (go_at_call 18; (with_reducible refine (HTu.out _ (by (try show Ex _ _); with_reducible repeat (first | exact ex_refl _ | assumption | refine ex_drewL ?_ | refine ex_appR ?_ _ | refine ex_wx ?_ _ | refine ex_drew ?_ | refine ex_alloc ?_ _))).mono ?_); rintro e z ⟨rfl, Y7, rfl⟩) | (go_at_call 23; (with_reducible refine (HDK.out _ (by (try show Ex _ _); with_reducible repeat (first | exact ex_refl _ | assumption | refine ex_drewL ?_ | refine ex_appR ?_ _ | refine ex_wx ?_ _ | refine ex_drew ?_ | refine ex_alloc ?_ _)) (hG.out.ex (by (try show Ex _ _); with_reducible repeat (first | exact ex_refl _ | assumption | refine ex_drewL ?_ | refine ex_appR ?_ _ | refine ex_wx ?_ _ | refine ex_drew ?_ | refine ex_alloc ?_ _)))).mono ?_); rintro e W8 ⟨rfl, hG8, hK8⟩; replace hK8 := Kz.trans (Kz.ofEx (W := W6) (by (try show Ex _ _); with_reducible repeat (first | exact ex_refl _ | assumption | refine ex_drewL ?_ | refine ex_appR ?_ _ | refine ex_wx ?_ _ | refine ex_drew ?_ | refine ex_alloc ?_ _))) hK8; have hb8 := hK8.ty _ _ _ _ hb6 tz_step; have yw8 := hK8.ex (w0 := W) yw6; have hSv8 := Lib.hid (hSv.out.ky (Ky.trans (Ky.ex y6) hK8.ky)); obtain ⟨c80, c81, c82, c83, z8⟩ := box_cells hb8; replace hG8 := Lib.hid hG8; clear hK8 hb6 c60 c61 c62 c63) | (go_at_call 24; (with_reducible refine (HNK.out _ _ (by (try show Ex _ _); with_reducible repeat (first | exact ex_refl _ | assumption | refine ex_drewL ?_ | refine ex_appR ?_ _ | refine ex_wx ?_ _ | refine ex_drew ?_ | refine ex_alloc ?_ _)) (hSv8.out.ky (Ky.ex (by (try show Ex _ _); with_reducible repeat (first | exact ex_refl _ | assumption | refine ex_drewL ?_ | refine ex_appR ?_ _ | refine ex_wx ?_ _ | refine ex_drew ?_ | refine ex_alloc ?_ _))))).mono ?_); rintro e W9 ⟨v9, rfl, hS9, hx9⟩; have x9 : Ex W8 W9 := ex_trans (by (try show Ex _ _); with_reducible repeat (first | exact ex_refl _ | assumption | refine ex_drewL ?_ | refine ex_appR ?_ _ | refine ex_wx ?_ _ | refine ex_drew ?_ | refine ex_alloc ?_ _)) hx9; have hb9 := ex_block x9 hb8; have yw9 := ex_trans yw8 x9; have hG9 := Lib.hid (hG8.out.ex x9); have c9 := block_cellF (o := 0) hb9 rfl; obtain ⟨a9, d9, rfl, _⟩ := id hS9.out; replace hS9 := Lib.hid hS9; clear hx9 x9 hb8 c80 c81 c82 c83 hSv8))
            exact ⟨⟨k + 1, by omega, by omega, by go_num, Lib.hid ⟨⟨d', wl', L', hG9.out.ex (by (try show Ex _ _); with_reducible repeat (first | exact ex_refl _ | assumption | refine ex_drewL ?_ | refine ex_appR ?_ _ | refine ex_wx ?_ _ | refine ex_drew ?_ | refine ex_alloc ?_ _)), hI'.out, hC'.out, T3, hS9.out.ky (Ky.ex (by (try show Ex _ _); with_reducible repeat (first | exact ex_refl _ | assumption | refine ex_drewL ?_ | refine ex_appR ?_ _ | refine ex_wx ?_ _ | refine ex_drew ?_ | refine ex_alloc ?_ _)))⟩, (by (try show Ex _ _); with_reducible repeat (first | exact ex_refl _ | assumption | refine ex_drewL ?_ | refine ex_appR ?_ _ | refine ex_wx ?_ _ | refine ex_drew ?_ | refine ex_alloc ?_ _))⟩⟩, by simp [intOf]; omega⟩
    · obtain rfl : k = m := by omega
      have hL6 : L.length ≤ 1000000 := by have := hI.out.lens; omega
      have hsh : wl.sh = L := hI.out.sh
      obtain ⟨av, cv, rfl, _⟩ := id hSv.out.out
      have HTo : Hid (Calls Tryd.prog 25 #[PT p] wr (PostTo wr L)) := Lib.hid (by
        obtain ⟨q1, q2, q3⟩ := hI.out.lens
        rw [← hsh] at q1 q2 q3 ⊢
        exact told_z hG.out q1 q2 q3)
      obtain ⟨d8, hO8, hI8⟩ : ∃ d8, openD HW d = (d8, some ⟨upC wl.c, L, false⟩, 0) ∧ Hid (LogI HW d8 ⟨upC wl.c, L, false⟩ L (k + 2) (7 + 11 * k + 14)) := by
        obtain ⟨hs, rfl, hl, ht, hu⟩ := hI.out
        obtain ⟨d8, j1, j2, j3, j4, j5, j6⟩ := open_known HW_len hC.out (by rw [hs.qu]; simp) (by rw [img_nil hs.qu]; exact hs.hI) (by omega)
        have := hs.hI.ok.un
        exact ⟨d8, j1, Lib.hid ⟨⟨rfl, j3, j4⟩, rfl, by rw [j6, hl], by show wl.c.turn + 1 ≤ _; omega, by omega⟩⟩
      have HO := Lib.hid (fun W' (x : Ex wr W') => open_z G (ex_trans hX x) (hG.out.ex x).dk (by have := hI.out.u; omega) (by rw [hI.out.still.qu]; simp))
      rw [hO8] at HO
      have HTo2 : Hid (∀ W' p8 q8, LgZ W.heap.size W' p8 q8 d8 ⟨upC wl.c, L, false⟩ → Calls Tryd.prog 25 #[PT p8] W' (PostTo W' L)) := Lib.hid (fun W' p8 q8 h8 => by
        obtain ⟨q1, q2, q3⟩ := hI.out.lens
        exact told_z h8 q1 q2 q3)
      clear hO8 hI8
      go_wp2_with (first | (go_at_call 25; go_loud (with_reducible refine (HTo2.out _ _ _ (hG8.out.ex (by (try show Ex _ _); with_reducible repeat (first | exact ex_refl _ | assumption | refine ex_drewL ?_ | refine ex_appR ?_ _ | refine ex_wx ?_ _ | refine ex_drew ?_ | refine ex_alloc ?_ _)))).mono ?_); rintro e W9 ⟨v9, rfl, hS9, X9, rfl⟩; (try simp only [wx_wx] at hS9); obtain ⟨a9, c9, rfl, _⟩ := hS9.out; replace hS9 := Lib.hid hS9) | (go_at_call 25; go_loud (with_reducible refine HTo.out.mono ?_); rintro e W7 ⟨v7, rfl, hS7, X7, rfl⟩; obtain ⟨a7, c7, rfl, _⟩ := hS7.out; replace hS7 := Lib.hid hS7) | (go_at_call 20; (with_reducible refine (disk_z (hG.out.ex (by (try show Ex _ _); with_reducible repeat (first | exact ex_refl _ | assumption | refine ex_drewL ?_ | refine ex_appR ?_ _ | refine ex_wx ?_ _ | refine ex_drew ?_ | refine ex_alloc ?_ _)))).mono ?_); rintro e W7 ⟨rfl, Y7, rfl⟩) | (go_at_call 9; go_loud (with_reducible refine (HO.out _ (by (try show Ex _ _); with_reducible repeat (first | exact ex_refl _ | assumption | refine ex_drewL ?_ | refine ex_appR ?_ _ | refine ex_wx ?_ _ | refine ex_drew ?_ | refine ex_alloc ?_ _))).mono ?_); intro e W8 hP; obtain ⟨p8, rfl, hK8, hG8⟩ := hP.some; clear hP; have hS78 := Lib.hid (hS7.out.ky (Ky.trans (Ky.ex (by (try show Ex _ _); with_reducible repeat (first | exact ex_refl _ | assumption | refine ex_drewL ?_ | refine ex_appR ?_ _ | refine ex_wx ?_ _ | refine ex_drew ?_ | refine ex_alloc ?_ _))) hK8.ky)); replace hK8 := Kz.trans (Kz.ofEx (W := wr) (by (try show Ex _ _); with_reducible repeat (first | exact ex_refl _ | assumption | refine ex_drewL ?_ | refine ex_appR ?_ _ | refine ex_wx ?_ _ | refine ex_drew ?_ | refine ex_alloc ?_ _))) hK8; have k8 := hK8.ex (w0 := W) hX; have hSv8 := Lib.hid (hSv.out.ky hK8.ky); replace hG8 := Lib.hid hG8; clear hS7) | (go_at_call 26; go_loud (with_reducible refine (same_z L L _ _ _ (hS9.out.ky (Ky.ex (by (try show Ex _ _); with_reducible repeat (first | exact ex_refl _ | assumption | refine ex_drewL ?_ | refine ex_appR ?_ _ | refine ex_wx ?_ _ | refine ex_drew ?_ | refine ex_alloc ?_ _)))) (hSv8.out.ky (Ky.ex (by (try show Ex _ _); with_reducible repeat (first | exact ex_refl _ | assumption | refine ex_drewL ?_ | refine ex_appR ?_ _ | refine ex_wx ?_ _ | refine ex_drew ?_ | refine ex_alloc ?_ _)))) hL6 hL6).mono ?_); rintro e z ⟨rfl, Y, rfl⟩; (try simp only [decide_true])) | (go_at_call 26; go_loud (with_reducible refine (same_z L L _ _ _ (hS78.out.ky (Ky.ex (by (try show Ex _ _); with_reducible repeat (first | exact ex_refl _ | assumption | refine ex_drewL ?_ | refine ex_appR ?_ _ | refine ex_wx ?_ _ | refine ex_drew ?_ | refine ex_alloc ?_ _)))) (hSv8.out.ky (Ky.ex (by (try show Ex _ _); with_reducible repeat (first | exact ex_refl _ | assumption | refine ex_drewL ?_ | refine ex_appR ?_ _ | refine ex_wx ?_ _ | refine ex_drew ?_ | refine ex_alloc ?_ _)))) hL6 hL6).mono ?_); rintro e z ⟨rfl, Y, rfl⟩; (try simp only [decide_true])))
      go_ret
      exact ⟨rfl, (by (try show Ex _ _); with_reducible repeat (first | exact ex_refl _ | assumption | refine ex_drewL ?_ | refine ex_appR ?_ _ | refine ex_wx ?_ _ | refine ex_drew ?_ | refine ex_alloc ?_ _))⟩
end Go.Proofs.YtabjamkkhlbajaaDoor
