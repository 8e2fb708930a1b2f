import Derived.Test.YtcdocklbpfdmeaaDoorMGoto
import Derived.Shelf.RegionOpenPlain
import Derived.Test.YtcdocklbpfdmeaaDoorMLdA

/- Contains; Roots, Extends. -/
set_option linter.unusedSimpArgs false
set_option linter.unusedVariables false
set_option maxRecDepth 20000
namespace Go.Proofs.YtcdocklbpfdmeaaDoor
open Go.RowKit
/-- The row's cells, one by one. -/
theorem ownb_cells {w : World} {Z : Nat} {v : Value} {l : List Bool} (h : OwnB w Z v l) (hl : 0 < l.length) : ∃ g cap, v = .slice (some ⟨g, 0, none⟩) l.length cap ∧ ∀ (k : Nat) (b : Bool), l[k]? = some b → w.cell? ⟨g, k, none⟩ = some (.bool b) := by
  obtain ⟨g, cap, cur, rfl, h1, h2, h3, h4, h5, h6⟩ := own_block h hl (by omega)
  exact ⟨g, cap, rfl, fun k b hk => (own_atB h hk).1⟩
set_option maxHeartbeats 1000000 in
theorem index_any {Z : Nat} (l : List Bool) (v : Value) (w : World) (hown : OwnB w Z v l) (hl : l.length ≤ 140737488355328) :
    Calls Tryd.prog 148 #[v, .bool true] w fun e w' => ∃ i : Int, e = .returned (I i) ∧ decide (0 ≤ i) = l.contains true ∧ Ex w w' := by
  obtain ⟨a, c, rfl, k1, k2, k3⟩ := own_form hown
  obtain ⟨n, hn⟩ : ∃ n, l.length = n := ⟨_, rfl⟩
  have HN : Hid (l.length = n) := Lib.hid hn
  have HO := Lib.hid hown
  rw [hn] at hl k1 ⊢
  unfold maxLen at k2
  clear hown hn
  go_enter Tryd.func148, Tryd.ntmps148
  go_wp2
  go_loopw [8] (fun i W => ∃ k : Nat, k ≤ n ∧ i = I k ∧ Hid (∀ j, j < k → l[j]? = some false) ∧ W = w) (fun i _ => n - (intOf i).toNat)
  case atStart => exact ⟨0, by omega, rfl, Lib.hid (fun j hj => by omega), rfl⟩
  case round =>
    obtain ⟨k, hk, rfl, HK, rfl⟩ := hrel
    by_cases hlt : k < n
    · obtain ⟨g, cap, hv, hc⟩ := ownb_cells HO.out (by rw [HN.out]; omega)
      obtain ⟨rfl, hn2, hc2⟩ : a = some ⟨g, 0, none⟩ ∧ n = l.length ∧ c = cap := by have := HN.out; simpa [this] using hv
      obtain ⟨b, hb⟩ : ∃ b, l[k]? = some b := ⟨_, List.getElem?_eq_getElem (by rw [HN.out]; exact hlt)⟩
      have h1 := hc k b hb
      have HB := Lib.hid hb
      clear hc hv hn2 hc2 hb
      cases b
      · go_wp2
        refine ⟨⟨k + 1, by omega, by go_num, Lib.hid (fun j hj => ?_), by trivial⟩, by simp [intOf]; omega⟩
        by_cases hjk : j < k
        · exact HK.out j hjk
        · obtain rfl : j = k := by omega
          exact HB.out
      · go_wp2
        go_ret
        refine ⟨k, rfl, ?_, (by (try show Ex _ _); repeat (first | (with_reducible exact ex_refl _) | (with_reducible assumption) | (with_reducible refine ex_drewL ?_) | (with_reducible refine ex_appR ?_ _) | (with_reducible refine ex_wx ?_ _) | (with_reducible refine ex_drew ?_) | (with_reducible refine ex_alloc ?_ _)))⟩
        rw [decide_eq_true (by omega)]
        exact (List.contains_iff_mem.2 (List.mem_of_getElem? HB.out)).symm
    · obtain rfl : k = n := by omega
      clear hlt hk
      go_wp2
      go_ret
      refine ⟨-1, rfl, ?_, (by (try show Ex _ _); repeat (first | (with_reducible exact ex_refl _) | (with_reducible assumption) | (with_reducible refine ex_drewL ?_) | (with_reducible refine ex_appR ?_ _) | (with_reducible refine ex_wx ?_ _) | (with_reducible refine ex_drew ?_) | (with_reducible refine ex_alloc ?_ _)))⟩
      rw [decide_eq_false (by omega)]
      symm
      rw [← Bool.not_eq_true, List.contains_iff_mem]
      intro hm
      obtain ⟨j, hj⟩ := List.mem_iff_getElem?.1 hm
      have := HK.out j (by have := (List.getElem?_eq_some_iff.1 hj).1; rw [HN.out] at this; exact this)
      rw [this] at hj; cases hj
theorem contains_any {Z : Nat} (l : List Bool) (v : Value) (w : World) (hown : OwnB w Z v l) (hl : l.length ≤ 140737488355328) :
    Calls Tryd.prog 130 #[v, .bool true] w (Post w (.bool (l.contains true))) := by
  have HI := Lib.hid (index_any l v w hown hl)
  clear hown
  go_enter Tryd.func130, Tryd.ntmps130
  go_wp2_with (go_at_call 148; refine HI.out.mono ?_; rintro e w2 ⟨i, rfl, hi, X, rfl⟩; have HII := Lib.hid hi; clear hi)
  go_ret
  exact post_mk (by rw [← HII.out]; rfl) (by (try show Ex _ _); repeat (first | (with_reducible exact ex_refl _) | (with_reducible assumption) | (with_reducible refine ex_drewL ?_) | (with_reducible refine ex_appR ?_ _) | (with_reducible refine ex_wx ?_ _) | (with_reducible refine ex_drew ?_) | (with_reducible refine ex_alloc ?_ _)))
def growOk (m n : Int) : Bool := decide (1 ≤ n ∧ n ≤ 1024 ∧ 1 ≤ m ∧ m ≤ n)
/-- Both roots; nothing where there are no such leaves. -/
def RootsD (m n : Int) (old : Dg) (p : List Dg) : Option (Dg × Dg) := if growOk m n then rootsD m.toNat n.toNat old true p else none
def rootsV (o : Option (Dg × Dg)) : Value := match o with | some x => .tuple #[.agg (rowB 32 (dF x.1)), .agg (rowB 32 (dF x.2)), .bool true] | none => .tuple #[.agg (rowB 32 fun _ => 0), .agg (rowB 32 fun _ => 0), .bool false]
theorem fold2_take (x : Dg × Dg) (R : List Bool) (p : List Dg) (k : Nat) (b : Bool) (d : Dg) (hR : R[k]? = some b) (hp : p[k]? = some d) : fold2 x (R.take (k + 1)) (p.take (k + 1)) = (if b then nodeD d (fold2 x (R.take k) (p.take k)).1 else (fold2 x (R.take k) (p.take k)).1, overD b (fold2 x (R.take k) (p.take k)).2 d) := by
  obtain ⟨h1, e1⟩ := List.getElem?_eq_some_iff.1 hR
  obtain ⟨h2, e2⟩ := List.getElem?_eq_some_iff.1 hp
  rw [List.take_succ_eq_append_getElem h1, List.take_succ_eq_append_getElem h2, e1, e2]
  exact fold2_snoc _ _ _ _ _ (by rw [List.length_take, List.length_take]; omega)
abbrev wR (w : World) (x y : Dg) : World := (((w.alloc (.cells (rowB 32 (dF x)) 46)).alloc (.cells (rowB 32 fun _ => 0) 46)).alloc (.cells (rowB 32 fun _ => 0) 46)).alloc (.cells (rowB 32 (dF y)) 46)
theorem wR_size (w : World) (x y : Dg) : (wR w x y).heap.size = w.heap.size + 1 + 1 + 1 + 1 := by simp [wR, go_sem]
set_option maxHeartbeats 1000000 in
theorem Roots_any {w0 : World} (G : Glob w0) (m n : Int) (old : Dg) (p : List Dg) (a : Option Addr) (c : Nat) : ∀ w, Ex w0 w → p.length ≤ c → c ≤ maxLen → SlD w a p →
    Calls Tryd.prog 95 #[I m, I n, .agg (rowB 32 (dF old)), .slice a p.length c] w (Post w (rootsV (RootsD m n old p))) := by
  intro w k hc hcm hs
  replace G := G.ex k
  clear k
  unfold maxLen at hcm
  by_cases hok : growOk m n = true
  · have hr : RootsD m n old p = rootsD m.toNat n.toNat old true p := if_pos hok
    rw [hr]
    unfold growOk at hok
    rw [decide_eq_true_eq] at hok
    obtain ⟨N, rfl⟩ : ∃ N : Nat, n = N := ⟨n.toNat, by omega⟩
    obtain ⟨M, rfl⟩ : ∃ M : Nat, m = M := ⟨m.toNat, by omega⟩
    rw [Int.toNat_natCast, Int.toNat_natCast]
    clear hr
    have hsl : (stepsN M N).length ≤ 2000 := by
      have : ∀ (q : Nat) (n m : Nat), n = q → (stepsN m n).length ≤ n := by
        intro q
        induction q using Nat.strongRecOn with
        | ind q ih =>
          intro n m hn
          by_cases hmn : m < n
          · by_cases hm1 : 1 ≤ m
            · have h1 := split_lt (n := n) (by omega)
              have h3 := split_pos n
              by_cases hk : splitN n < m
              · rw [steps_hi hm1 hmn hk]
                have := ih (n - splitN n) (by omega) (n - splitN n) (m - splitN n) rfl
                simp; omega
              · rw [steps_lo hm1 hmn hk]
                have := ih (splitN n) (by omega) (splitN n) m rfl
                simp; omega
            · rw [stepsN]
              split
              · simp
              · have h1 := split_lt (n := n) (by omega)
                have h3 := split_pos n
                simp only
                split
                · have := ih (n - splitN n) (by omega) (n - splitN n) (m - splitN n) rfl
                  simp; omega
                · have := ih (splitN n) (by omega) (splitN n) m rfl
                  simp; omega
          · rw [steps_all (by omega)]; simp
      have := this N N M rfl
      omega
    have hcd : rootsD M N old true p = rootsOf (stepsN M N) old true p := rfl
    rw [hcd]
    clear hcd
    have HS : Hid (∀ w', Calls Tryd.prog 129 #[I M, I N] w' (PostW w'.heap.size w' (stepsN M N))) := Lib.hid fun w' => steps_any M N w' (by omega) (by omega) (by omega)
    generalize stepsN M N = S at HS hsl ⊢
    have t1 : decide ((N : Int) < 1) = false := decide_eq_false (by omega)
    have t2 : decide ((1024 : Int) < N) = false := decide_eq_false (by omega)
    have t3 : decide ((M : Int) < 1) = false := decide_eq_false (by omega)
    have t4 : decide ((N : Int) < M) = false := decide_eq_false (by omega)
    have t5 : decide (N < M) = false := decide_eq_false (by omega)
    have t6 : decide (N < 1) = false := decide_eq_false (by omega)
    have t7 : decide (M < 1) = false := decide_eq_false (by omega)
    have HSS : Hid (S.length ≤ 2000) := Lib.hid hsl
    obtain ⟨R, hRd⟩ : ∃ R, S.reverse = R := ⟨_, rfl⟩
    have HRD : Hid (S.reverse = R) := Lib.hid hRd
    have HRL : Hid (R.length = S.length) := Lib.hid (by rw [← hRd, List.length_reverse])
    clear hsl
    cases hcon : S.contains true with
    | false =>
      have HCON : Hid (S.contains true = false) := Lib.hid hcon
      have hro : rootsOf S old true p = if S.length = p.length then some (fold2 (old, old) S.reverse p) else none := by
        unfold rootsOf; rw [hcon]; rfl
      rw [hro]
      clear hro hcon
      by_cases hlen : S.length = p.length
      · rw [if_pos hlen, hRd]
        obtain ⟨L, hL⟩ : ∃ L, p.length = L := ⟨_, rfl⟩
        have HLQ : Hid (p.length = L) := Lib.hid hL
        have HSL : Hid (S.length = L) := Lib.hid (by omega)
        have HR : Hid (R.length = L) := Lib.hid (by rw [HRL.out]; omega)
        rw [hL] at hc ⊢
        clear hL hlen hRd
        go_enter Tryd.func95, Tryd.ntmps95
        go_wp2
        go_step3
        go_wp2_with (first | (go_at_call 129; refine (HS.out _).mono ?_; rintro e w2 ⟨v, rfl, hown, X, rfl⟩; obtain ⟨sa, sc, hv, k1, k2, k3⟩ := own_form hown; rw [HSL.out] at hv k1; subst hv) | (go_at_call 130; refine (contains_any S _ _ hown (by have := HSS.out; omega)).mono ?_; rintro e w3 ⟨rfl, X2, rfl⟩; rw [HCON.out]; have hown1 := OwnB.ex hown (w' := wx (wR w old old) (X.app X2)) (by (try show Ex _ _); repeat (first | (with_reducible exact ex_refl _) | (with_reducible assumption) | (with_reducible refine ex_drewL ?_) | (with_reducible refine ex_appR ?_ _) | (with_reducible refine ex_wx ?_ _) | (with_reducible refine ex_drew ?_) | (with_reducible refine ex_alloc ?_ _)))) | (go_at_call 125; refine (revb_any S _ _ hown1 (by have := HSS.out; omega)).mono ?_; rintro e w4 ⟨rfl, hown2, hbe⟩; obtain ⟨X3, rfl⟩ := exOf (A := wR w old old) (by (try show Ex _ _); repeat (first | (with_reducible exact ex_refl _) | (with_reducible assumption) | (with_reducible refine ex_drewL ?_) | (with_reducible refine ex_appR ?_ _) | (with_reducible refine ex_wx ?_ _) | (with_reducible refine ex_drew ?_) | (with_reducible refine ex_alloc ?_ _))) hbe))
        rw [HRD.out] at hown2
        have HO0 : Hid (OwnB (wx (wR w old old) X3) (wR w old old).heap.size (.slice sa L sc) R) := Lib.hid hown2
        clear hown hown1 hown2 hbe HS HSL HRD HSS HRL HCON k3 t1 t2 t3 t4 t5 t6 t7
        go_loopw [56] (fun i W => ∃ (k : Nat) (X : More), k ≤ L ∧ i = I k ∧ W = wx (wR w (fold2 (old, old) (R.take k) (p.take k)).1 (fold2 (old, old) (R.take k) (p.take k)).2) X ∧ Hid (OwnB (wx (wR w old old) X) (wR w old old).heap.size (.slice sa L sc) R)) (fun i _ => L - (intOf i).toNat)
        case atStart => exact ⟨0, _, by omega, rfl, rfl, HO0⟩
        case round =>
          obtain ⟨k, X, hk, rfl, rfl, HO⟩ := hrel
          by_cases hlt : k < L
          · obtain ⟨g3, off3, hsl3, hg, hcell⟩ := hs.pos (by rw [HLQ.out]; omega)
            cases hsl3
            obtain ⟨d, hd⟩ : ∃ d, p[k]? = some d := ⟨_, List.getElem?_eq_getElem (by rw [HLQ.out]; omega)⟩
            obtain ⟨b, hb⟩ : ∃ b, R[k]? = some b := ⟨_, List.getElem?_eq_getElem (by rw [HR.out]; omega)⟩
            have h1 := hcell k d hd
            obtain ⟨qq, cap, cur, hv, hz, _, _, hcur⟩ := ownb_at HO.out (by rw [HR.out]; omega)
            obtain ⟨rfl, hLR, rfl⟩ : sa = some ⟨(wR w old old).heap.size + qq, 0, none⟩ ∧ L = R.length ∧ sc = cap := by simpa using hv
            have hcb := hcur k b hb
            have HX := Lib.hid (fold2_take (old, old) R p k b d hb hd)
            rw [wR_size]
            rw [wR_size] at HO hv
            generalize fold2 (old, old) (R.take k) (p.take k) = f at HX ⊢
            obtain ⟨fa, fb⟩ := f
            simp only at HX ⊢
            have hzl : qq < X.blocks.length := (List.getElem?_eq_some_iff.1 hz).1
            have hg1 : g3 < w.heap.size + 1 := by omega
            have hg2 : g3 < w.heap.size + 1 + 1 := by omega
            have hg3 : g3 < w.heap.size + 1 + 1 + 1 := by omega
            have hg4 : g3 < w.heap.size + 1 + 1 + 1 + 1 := by omega
            have HOV : Hid (∀ w', Ex w w' → Calls Tryd.prog 126 #[.bool b, .agg (rowB 32 (dF fb)), .agg (rowB 32 (dF d))] w' (Post w' (.agg (rowB 32 (dF (overD b fb d)))))) := Lib.hid fun w' k => over_any G b fb d w' k
            have HNO : Hid (∀ w', Ex w w' → Calls Tryd.prog 123 #[.agg (rowB 32 (dF d)), .agg (rowB 32 (dF fa))] w' (Post w' (.agg (rowB 32 (dF (nodeD d fa)))))) := Lib.hid fun w' k => node_any G d fa w' k
            clear hcell hcur hd hb hv hs hLR
            cases b
            · simp only [Bool.false_eq_true, if_false, if_true] at HX
              go_wp2
              refine wp_region_mix [(0, true), (1, true), (2, true), (3, true), (4, true), (5, true), (6, false)] 7 (by kernel_rfl) (by kernel_rfl) (fun _ _ d _ _ h => by cases d <;> exact h) ?_
              simp only [List.map_cons, List.map_nil, nth, List.drop_succ_cons, List.drop_zero]
              repeat (first | (refine wpMix_look ?_; go_big_quiet_step (fail); refine wpQuiet_nil ?_) | (refine wpMix_eff rfl (fun X1 => ?_); go_wp2_with (go_at_call 126; (with_reducible refine (HOV.out _ (by (try show Ex _ _); repeat (first | (with_reducible exact ex_refl _) | (with_reducible assumption) | (with_reducible refine ex_drewL ?_) | (with_reducible refine ex_appR ?_ _) | (with_reducible refine ex_wx ?_ _) | (with_reducible refine ex_drew ?_) | (with_reducible refine ex_alloc ?_ _)))).mono ?_); rintro e w2 ⟨rfl, X5, rfl⟩); refine mixQ_mk (by first | exact ex_refl _ | exact ⟨_, rfl⟩ | exact ex_app _ _ _ | (simp only [wx_wx, wx_drew]; first | exact ex_refl _ | exact ex_app _ _ _ | exact ⟨_, rfl⟩) | (repeat (first | exact ex_refl _ | refine ex_drew ?_ | refine ex_alloc ?_ _ | refine ex_wx ?_ _))) ?_))
              refine wpMix_nil (fun X2 => ?_)
              go_wp2
              exact ⟨⟨k + 1, _, by omega, by go_num, (by rw [HX.out]), Lib.hid (OwnB.ex HO.out (by (try show Ex _ _); repeat (first | (with_reducible exact ex_refl _) | (with_reducible assumption) | (with_reducible refine ex_drewL ?_) | (with_reducible refine ex_appR ?_ _) | (with_reducible refine ex_wx ?_ _) | (with_reducible refine ex_drew ?_) | (with_reducible refine ex_alloc ?_ _))))⟩, by simp [intOf]; omega⟩
            · simp only [Bool.false_eq_true, if_false, if_true] at HX
              go_wp2
              refine wp_region_mix [(0, true), (1, true), (2, true), (3, true), (4, true), (5, true), (6, false)] 7 (by kernel_rfl) (by kernel_rfl) (fun _ _ d _ _ h => by cases d <;> exact h) ?_
              simp only [List.map_cons, List.map_nil, nth, List.drop_succ_cons, List.drop_zero]
              repeat (first | (refine wpMix_look ?_; go_big_quiet_step (fail); refine wpQuiet_nil ?_) | (refine wpMix_eff rfl (fun X1 => ?_); go_wp2_with (go_at_call 126; (with_reducible refine (HOV.out _ (by (try show Ex _ _); repeat (first | (with_reducible exact ex_refl _) | (with_reducible assumption) | (with_reducible refine ex_drewL ?_) | (with_reducible refine ex_appR ?_ _) | (with_reducible refine ex_wx ?_ _) | (with_reducible refine ex_drew ?_) | (with_reducible refine ex_alloc ?_ _)))).mono ?_); rintro e w2 ⟨rfl, X5, rfl⟩); refine mixQ_mk (by first | exact ex_refl _ | exact ⟨_, rfl⟩ | exact ex_app _ _ _ | (simp only [wx_wx, wx_drew]; first | exact ex_refl _ | exact ex_app _ _ _ | exact ⟨_, rfl⟩) | (repeat (first | exact ex_refl _ | refine ex_drew ?_ | refine ex_alloc ?_ _ | refine ex_wx ?_ _))) ?_))
              refine wpMix_nil (fun X2 => ?_)
              go_wp2
              refine wp_region_mix [(0, true), (1, true), (2, true), (3, true), (4, true), (5, false)] 6 (by kernel_rfl) (by kernel_rfl) (fun _ _ d _ _ h => by cases d <;> exact h) ?_
              simp only [List.map_cons, List.map_nil, nth, List.drop_succ_cons, List.drop_zero]
              repeat (first | (refine wpMix_look ?_; go_big_quiet_step (fail); refine wpQuiet_nil ?_) | (refine wpMix_eff rfl (fun X1 => ?_); go_wp2_with (go_at_call 123; (with_reducible refine (HNO.out _ (by (try show Ex _ _); repeat (first | (with_reducible exact ex_refl _) | (with_reducible assumption) | (with_reducible refine ex_drewL ?_) | (with_reducible refine ex_appR ?_ _) | (with_reducible refine ex_wx ?_ _) | (with_reducible refine ex_drew ?_) | (with_reducible refine ex_alloc ?_ _)))).mono ?_); rintro e w2 ⟨rfl, X6, rfl⟩); refine mixQ_mk (by first | exact ex_refl _ | exact ⟨_, rfl⟩ | exact ex_app _ _ _ | (simp only [wx_wx, wx_drew]; first | exact ex_refl _ | exact ex_app _ _ _ | exact ⟨_, rfl⟩) | (repeat (first | exact ex_refl _ | refine ex_drew ?_ | refine ex_alloc ?_ _ | refine ex_wx ?_ _))) ?_))
              refine wpMix_nil (fun X2 => ?_)
              go_wp2
              exact ⟨⟨k + 1, _, by omega, by go_num, (by rw [HX.out]), Lib.hid (OwnB.ex HO.out (by (try show Ex _ _); repeat (first | (with_reducible exact ex_refl _) | (with_reducible assumption) | (with_reducible refine ex_drewL ?_) | (with_reducible refine ex_appR ?_ _) | (with_reducible refine ex_wx ?_ _) | (with_reducible refine ex_drew ?_) | (with_reducible refine ex_alloc ?_ _))))⟩, by simp [intOf]; omega⟩
          · have hx : fold2 (old, old) (R.take k) (p.take k) = fold2 (old, old) R p := by
              rw [List.take_of_length_le (by rw [HR.out]; omega), List.take_of_length_le (by rw [HLQ.out]; omega)]
            rw [hx]
            obtain rfl : k = L := by omega
            clear hlt hk hx HO HO0 hs
            have mixed : Tryd.prog.follows .mixedOrders = true := by kernel_rfl
            go_wp2
            go_big_region_o
            all_goals go_wp2
            exact ret_row3 (cs := rowB 32 (dF (fold2 (old, old) R p).1)) (cs2 := rowB 32 (dF (fold2 (old, old) R p).2)) (v := .bool true) Tryd.results95 Tryd.underlying46 rfl info_id rfl (by simp [go_sem]) rfl (by simp [go_sem]) rfl rfl (post_mk rfl (by (try show Ex _ _); repeat (first | (with_reducible exact ex_refl _) | (with_reducible assumption) | (with_reducible refine ex_drewL ?_) | (with_reducible refine ex_appR ?_ _) | (with_reducible refine ex_wx ?_ _) | (with_reducible refine ex_drew ?_) | (with_reducible refine ex_alloc ?_ _))))
      · rw [if_neg hlen]
        obtain ⟨L, hL⟩ : ∃ L, p.length = L := ⟨_, rfl⟩
        obtain ⟨L2, hL2⟩ : ∃ L2, S.length = L2 := ⟨_, rfl⟩
        have HSL : Hid (S.length = L2) := Lib.hid hL2
        have hb : ((L2 : Int) == L) = false := beq_eq_false_iff_ne.2 (by omega)
        have hb2 : (L2 == L) = false := beq_eq_false_iff_ne.2 (by omega)
        rw [hL] at hc ⊢
        clear hL hL2 hlen hRd hs
        go_enter Tryd.func95, Tryd.ntmps95
        go_wp2
        refine wp_scope_once 0 (by rfl) ?_
        go_wp2_with (first | (go_at_call 129; refine (HS.out _).mono ?_; rintro e w2 ⟨v, rfl, hown, X, rfl⟩; obtain ⟨sa, sc, hv, k1, k2, k3⟩ := own_form hown; rw [HSL.out] at hv k1; subst hv) | (go_at_call 130; refine (contains_any S _ _ hown (by have := HSS.out; omega)).mono ?_; rintro e w3 ⟨rfl, X2, rfl⟩; rw [HCON.out]))
        go_step3
        refine ⟨rfl, ?_⟩
        go_wp2
        exact ret_row3 (cs := rowB 32 fun _ => 0) (cs2 := rowB 32 fun _ => 0) (v := .bool false) Tryd.results95 Tryd.underlying46 rfl info_id rfl (by simp [go_sem]) rfl (by simp [go_sem]) rfl rfl (post_mk rfl (by (try show Ex _ _); repeat (first | (with_reducible exact ex_refl _) | (with_reducible assumption) | (with_reducible refine ex_drewL ?_) | (with_reducible refine ex_appR ?_ _) | (with_reducible refine ex_wx ?_ _) | (with_reducible refine ex_drew ?_) | (with_reducible refine ex_alloc ?_ _))))
    | true =>
      have HCON : Hid (S.contains true = true) := Lib.hid hcon
      have hS1 : 1 ≤ S.length := by
        cases S with
        | nil => simp at hcon
        | cons b S => simp
      cases p with
      | nil =>
        have hro : rootsOf S old true [] = none := by
          unfold rootsOf; rw [hcon]; rfl
        rw [hro, List.length_nil]
        obtain ⟨L2, hL2⟩ : ∃ L2, S.length = L2 := ⟨_, rfl⟩
        have HSL : Hid (S.length = L2) := Lib.hid hL2
        clear hro hcon hL2 hS1 hRd hs
        go_enter Tryd.func95, Tryd.ntmps95
        go_wp2
        refine wp_scope_once 0 (by rfl) ?_
        go_wp2_with (first | (go_at_call 129; refine (HS.out _).mono ?_; rintro e w2 ⟨v, rfl, hown, X, rfl⟩; obtain ⟨sa, sc, hv, k1, k2, k3⟩ := own_form hown; rw [HSL.out] at hv k1; subst hv) | (go_at_call 130; refine (contains_any S _ _ hown (by have := HSS.out; omega)).mono ?_; rintro e w3 ⟨rfl, X2, rfl⟩; rw [HCON.out]))
        go_step3
        refine ⟨rfl, ?_⟩
        go_wp2
        exact ret_row3 (cs := rowB 32 fun _ => 0) (cs2 := rowB 32 fun _ => 0) (v := .bool false) Tryd.results95 Tryd.underlying46 rfl info_id rfl (by simp [go_sem]) rfl (by simp [go_sem]) rfl rfl (post_mk rfl (by (try show Ex _ _); repeat (first | (with_reducible exact ex_refl _) | (with_reducible assumption) | (with_reducible refine ex_drewL ?_) | (with_reducible refine ex_appR ?_ _) | (with_reducible refine ex_wx ?_ _) | (with_reducible refine ex_drew ?_) | (with_reducible refine ex_alloc ?_ _))))
      | cons x ps =>
        have hro : rootsOf S old true (x :: ps) = if S.length = ps.length then some (fold2 (x, x) S.reverse ps) else none := by
          unfold rootsOf; rw [hcon]; rfl
        rw [hro]
        clear hro hcon
        obtain ⟨g, off, rfl, hg, hcell⟩ := hs.pos (by simp)
        have h0 := hcell 0 x rfl
        rw [Nat.zero_mul, Nat.add_zero] at h0
        have hsq : SlD w (some ⟨g, off + 32, none⟩) ps := by
          have := hs.drop 1
          rwa [Nat.one_mul] at this
        have hga : g < w.heap.size + 1 := by omega
        have hgb : g < w.heap.size + 1 + 1 := by omega
        have hgc : g < w.heap.size + 1 + 1 + 1 := by omega
        have hgd : g < w.heap.size + 1 + 1 + 1 + 1 := by omega
        clear hcell
        obtain ⟨L, hL⟩ : ∃ L, ps.length = L := ⟨_, rfl⟩
        have hL1 : (x :: ps).length = L + 1 := by simp [hL]
        rw [hL1] at hc ⊢
        have c1 : (1 : Int) ≤ (L : Int) + 1 := by omega
        have c2 : (L : Int) + 1 ≤ c := by omega
        by_cases hlen : S.length = ps.length
        · rw [if_pos hlen, hRd]
          have HLQ : Hid (ps.length = L) := Lib.hid hL
          have HSL : Hid (S.length = L) := Lib.hid (by omega)
          have HR : Hid (R.length = L) := Lib.hid (by rw [HRL.out]; omega)
          have c3 : ¬ c = 1 := by omega
          clear hL hL1 hlen hRd hS1
          go_enter Tryd.func95, Tryd.ntmps95
          go_wp2
          go_step3
          go_wp2_with (first | (go_at_call 129; refine (HS.out _).mono ?_; rintro e w2 ⟨v, rfl, hown, X, rfl⟩; obtain ⟨sa, sc, hv, k1, k2, k3⟩ := own_form hown; rw [HSL.out] at hv k1; subst hv) | (go_at_call 130; refine (contains_any S _ _ hown (by have := HSS.out; omega)).mono ?_; rintro e w3 ⟨rfl, X2, rfl⟩; rw [HCON.out]))
          refine wp_region_seqA (w) [(0, true), (1, true), (2, true), (3, true), (4, true), (5, true), (6, true), (7, true), (8, false), (9, false), (10, true)] (by (try show Ex _ _); repeat (first | (with_reducible exact ex_refl _) | (with_reducible assumption) | (with_reducible refine ex_drewL ?_) | (with_reducible refine ex_appR ?_ _) | (with_reducible refine ex_wx ?_ _) | (with_reducible refine ex_drew ?_) | (with_reducible refine ex_alloc ?_ _))) (by kernel_rfl) (by kernel_rfl) (fun _ _ d _ _ h => by cases d <;> exact h) ?_
          simp only [List.map_cons, List.map_nil, nth]
          repeat (first | ((with_reducible refine wpSeq_look ?_); go_big_quiet_step (fail); (with_reducible refine wpQuiet_nil ?_)) | ((with_reducible refine wpSeq_effF ?_ ?_); (focus rfl); go_simp) | ((with_reducible refine wpSeq_eff ?_ ?_); (focus rfl); (try dsimp only); go_wp2_with (fail); refine mixQ_mk (by (try show Ex _ _); repeat (first | (with_reducible exact ex_refl _) | (with_reducible assumption) | (with_reducible refine ex_drewL ?_) | (with_reducible refine ex_appR ?_ _) | (with_reducible refine ex_wx ?_ _) | (with_reducible refine ex_drew ?_) | (with_reducible refine ex_alloc ?_ _))) ?_))
          refine wpSeq_nil ?_
          have hsw := own_swap (A := wR w old old) (A' := wR w x x) (OwnB.ex hown (w' := wx (wR w old old) (X.app X2)) (by (try show Ex _ _); repeat (first | (with_reducible exact ex_refl _) | (with_reducible assumption) | (with_reducible refine ex_drewL ?_) | (with_reducible refine ex_appR ?_ _) | (with_reducible refine ex_wx ?_ _) | (with_reducible refine ex_drew ?_) | (with_reducible refine ex_alloc ?_ _)))) (by rw [wR_size, wR_size]) (by simp [wR, go_sem])
          go_wp2_with (go_at_call 125; refine (revb_any S _ _ (OwnB.ex hsw (by (try show Ex _ _); repeat (first | (with_reducible exact ex_refl _) | (with_reducible assumption) | (with_reducible refine ex_drewL ?_) | (with_reducible refine ex_appR ?_ _) | (with_reducible refine ex_wx ?_ _) | (with_reducible refine ex_drew ?_) | (with_reducible refine ex_alloc ?_ _)))) (by have := HSS.out; omega)).mono ?_; rintro e w4 ⟨rfl, hown2, hbe⟩; obtain ⟨X3, rfl⟩ := exOf (A := wR w x x) (by (try show Ex _ _); repeat (first | (with_reducible exact ex_refl _) | (with_reducible assumption) | (with_reducible refine ex_drewL ?_) | (with_reducible refine ex_appR ?_ _) | (with_reducible refine ex_wx ?_ _) | (with_reducible refine ex_drew ?_) | (with_reducible refine ex_alloc ?_ _))) (hbe.mono (by simp [wR, go_sem])))
          have hown3 := own_swap (A := wR w x x) (A' := wR w old old) hown2 (by rw [wR_size, wR_size]) (by simp [wR, go_sem])
          rw [HRD.out] at hown3
          have HO0 : Hid (OwnB (wx (wR w old old) X3) (wR w old old).heap.size (.slice sa L sc) R) := Lib.hid hown3
          clear hown hown2 hown3 hbe HS HSL HRD HSS HRL HCON k3 t1 t2 t3 t4 t5 t6 t7 h0
          go_loopw [56] (fun i W => ∃ (k : Nat) (X : More), k ≤ L ∧ i = I k ∧ W = wx (wR w (fold2 (x, x) (R.take k) (ps.take k)).1 (fold2 (x, x) (R.take k) (ps.take k)).2) X ∧ Hid (OwnB (wx (wR w old old) X) (wR w old old).heap.size (.slice sa L sc) R)) (fun i _ => L - (intOf i).toNat)
          case atStart => exact ⟨0, _, by omega, rfl, rfl, HO0⟩
          case round =>
            obtain ⟨k, X, hk, rfl, rfl, HO⟩ := hrel
            by_cases hlt : k < L
            · obtain ⟨g3, off3, hsl3, hg, hcell⟩ := hsq.pos (by rw [HLQ.out]; omega)
              cases hsl3
              obtain ⟨d, hd⟩ : ∃ d, ps[k]? = some d := ⟨_, List.getElem?_eq_getElem (by rw [HLQ.out]; omega)⟩
              obtain ⟨b, hb⟩ : ∃ b, R[k]? = some b := ⟨_, List.getElem?_eq_getElem (by rw [HR.out]; omega)⟩
              have h1 := hcell k d hd
              obtain ⟨qq, cap, cur, hv, hz, _, _, hcur⟩ := ownb_at HO.out (by rw [HR.out]; omega)
              obtain ⟨rfl, hLR, rfl⟩ : sa = some ⟨(wR w old old).heap.size + qq, 0, none⟩ ∧ L = R.length ∧ sc = cap := by simpa using hv
              have hcb := hcur k b hb
              have HX := Lib.hid (fold2_take (x, x) R ps k b d hb hd)
              rw [wR_size]
              rw [wR_size] at HO hv
              generalize fold2 (x, x) (R.take k) (ps.take k) = f at HX ⊢
              obtain ⟨fa, fb⟩ := f
              simp only at HX ⊢
              have hzl : qq < X.blocks.length := (List.getElem?_eq_some_iff.1 hz).1
              have hg1 : g < w.heap.size + 1 := by omega
              have hg2 : g < w.heap.size + 1 + 1 := by omega
              have hg3 : g < w.heap.size + 1 + 1 + 1 := by omega
              have hg4 : g < w.heap.size + 1 + 1 + 1 + 1 := by omega
              have HOV : Hid (∀ w', Ex w w' → Calls Tryd.prog 126 #[.bool b, .agg (rowB 32 (dF fb)), .agg (rowB 32 (dF d))] w' (Post w' (.agg (rowB 32 (dF (overD b fb d)))))) := Lib.hid fun w' k => over_any G b fb d w' k
              have HNO : Hid (∀ w', Ex w w' → Calls Tryd.prog 123 #[.agg (rowB 32 (dF d)), .agg (rowB 32 (dF fa))] w' (Post w' (.agg (rowB 32 (dF (nodeD d fa)))))) := Lib.hid fun w' k => node_any G d fa w' k
              clear hcell hcur hd hb hv hs hLR
              cases b
              · simp only [Bool.false_eq_true, if_false, if_true] at HX
                go_wp2
                refine wp_region_mix [(0, true), (1, true), (2, true), (3, true), (4, true), (5, true), (6, false)] 7 (by kernel_rfl) (by kernel_rfl) (fun _ _ d _ _ h => by cases d <;> exact h) ?_
                simp only [List.map_cons, List.map_nil, nth, List.drop_succ_cons, List.drop_zero]
                repeat (first | (refine wpMix_look ?_; go_big_quiet_step (fail); refine wpQuiet_nil ?_) | (refine wpMix_eff rfl (fun X1 => ?_); go_wp2_with (go_at_call 126; (with_reducible refine (HOV.out _ (by (try show Ex _ _); repeat (first | (with_reducible exact ex_refl _) | (with_reducible assumption) | (with_reducible refine ex_drewL ?_) | (with_reducible refine ex_appR ?_ _) | (with_reducible refine ex_wx ?_ _) | (with_reducible refine ex_drew ?_) | (with_reducible refine ex_alloc ?_ _)))).mono ?_); rintro e w2 ⟨rfl, X5, rfl⟩); refine mixQ_mk (by first | exact ex_refl _ | exact ⟨_, rfl⟩ | exact ex_app _ _ _ | (simp only [wx_wx, wx_drew]; first | exact ex_refl _ | exact ex_app _ _ _ | exact ⟨_, rfl⟩) | (repeat (first | exact ex_refl _ | refine ex_drew ?_ | refine ex_alloc ?_ _ | refine ex_wx ?_ _))) ?_))
                refine wpMix_nil (fun X2 => ?_)
                go_wp2
                exact ⟨⟨k + 1, _, by omega, by go_num, (by rw [HX.out]), Lib.hid (OwnB.ex HO.out (by (try show Ex _ _); repeat (first | (with_reducible exact ex_refl _) | (with_reducible assumption) | (with_reducible refine ex_drewL ?_) | (with_reducible refine ex_appR ?_ _) | (with_reducible refine ex_wx ?_ _) | (with_reducible refine ex_drew ?_) | (with_reducible refine ex_alloc ?_ _))))⟩, by simp [intOf]; omega⟩
              · simp only [Bool.false_eq_true, if_false, if_true] at HX
                go_wp2
                refine wp_region_mix [(0, true), (1, true), (2, true), (3, true), (4, true), (5, true), (6, false)] 7 (by kernel_rfl) (by kernel_rfl) (fun _ _ d _ _ h => by cases d <;> exact h) ?_
                simp only [List.map_cons, List.map_nil, nth, List.drop_succ_cons, List.drop_zero]
                repeat (first | (refine wpMix_look ?_; go_big_quiet_step (fail); refine wpQuiet_nil ?_) | (refine wpMix_eff rfl (fun X1 => ?_); go_wp2_with (go_at_call 126; (with_reducible refine (HOV.out _ (by (try show Ex _ _); repeat (first | (with_reducible exact ex_refl _) | (with_reducible assumption) | (with_reducible refine ex_drewL ?_) | (with_reducible refine ex_appR ?_ _) | (with_reducible refine ex_wx ?_ _) | (with_reducible refine ex_drew ?_) | (with_reducible refine ex_alloc ?_ _)))).mono ?_); rintro e w2 ⟨rfl, X5, rfl⟩); refine mixQ_mk (by first | exact ex_refl _ | exact ⟨_, rfl⟩ | exact ex_app _ _ _ | (simp only [wx_wx, wx_drew]; first | exact ex_refl _ | exact ex_app _ _ _ | exact ⟨_, rfl⟩) | (repeat (first | exact ex_refl _ | refine ex_drew ?_ | refine ex_alloc ?_ _ | refine ex_wx ?_ _))) ?_))
                refine wpMix_nil (fun X2 => ?_)
                go_wp2
                refine wp_region_mix [(0, true), (1, true), (2, true), (3, true), (4, true), (5, false)] 6 (by kernel_rfl) (by kernel_rfl) (fun _ _ d _ _ h => by cases d <;> exact h) ?_
                simp only [List.map_cons, List.map_nil, nth, List.drop_succ_cons, List.drop_zero]
                repeat (first | (refine wpMix_look ?_; go_big_quiet_step (fail); refine wpQuiet_nil ?_) | (refine wpMix_eff rfl (fun X1 => ?_); go_wp2_with (go_at_call 123; (with_reducible refine (HNO.out _ (by (try show Ex _ _); repeat (first | (with_reducible exact ex_refl _) | (with_reducible assumption) | (with_reducible refine ex_drewL ?_) | (with_reducible refine ex_appR ?_ _) | (with_reducible refine ex_wx ?_ _) | (with_reducible refine ex_drew ?_) | (with_reducible refine ex_alloc ?_ _)))).mono ?_); rintro e w2 ⟨rfl, X6, rfl⟩); refine mixQ_mk (by first | exact ex_refl _ | exact ⟨_, rfl⟩ | exact ex_app _ _ _ | (simp only [wx_wx, wx_drew]; first | exact ex_refl _ | exact ex_app _ _ _ | exact ⟨_, rfl⟩) | (repeat (first | exact ex_refl _ | refine ex_drew ?_ | refine ex_alloc ?_ _ | refine ex_wx ?_ _))) ?_))
                refine wpMix_nil (fun X2 => ?_)
                go_wp2
                exact ⟨⟨k + 1, _, by omega, by go_num, (by rw [HX.out]), Lib.hid (OwnB.ex HO.out (by (try show Ex _ _); repeat (first | (with_reducible exact ex_refl _) | (with_reducible assumption) | (with_reducible refine ex_drewL ?_) | (with_reducible refine ex_appR ?_ _) | (with_reducible refine ex_wx ?_ _) | (with_reducible refine ex_drew ?_) | (with_reducible refine ex_alloc ?_ _))))⟩, by simp [intOf]; omega⟩
            · have hx : fold2 (x, x) (R.take k) (ps.take k) = fold2 (x, x) R ps := by
                rw [List.take_of_length_le (by rw [HR.out]; omega), List.take_of_length_le (by rw [HLQ.out]; omega)]
              rw [hx]
              obtain rfl : k = L := by omega
              clear hlt hk hx HO HO0 hs
              have mixed : Tryd.prog.follows .mixedOrders = true := by kernel_rfl
              go_wp2
              go_big_region_o
              all_goals go_wp2
              exact ret_row3 (cs := rowB 32 (dF (fold2 (x, x) R ps).1)) (cs2 := rowB 32 (dF (fold2 (x, x) R ps).2)) (v := .bool true) Tryd.results95 Tryd.underlying46 rfl info_id rfl (by simp [go_sem]) rfl (by simp [go_sem]) rfl rfl (post_mk rfl (by (try show Ex _ _); repeat (first | (with_reducible exact ex_refl _) | (with_reducible assumption) | (with_reducible refine ex_drewL ?_) | (with_reducible refine ex_appR ?_ _) | (with_reducible refine ex_wx ?_ _) | (with_reducible refine ex_drew ?_) | (with_reducible refine ex_alloc ?_ _))))
        · rw [if_neg hlen]
          obtain ⟨L2, hL2⟩ : ∃ L2, S.length = L2 := ⟨_, rfl⟩
          have HSL : Hid (S.length = L2) := Lib.hid hL2
          have hb : ((L2 : Int) == L) = false := beq_eq_false_iff_ne.2 (by omega)
          have hb2 : (L2 == L) = false := beq_eq_false_iff_ne.2 (by omega)
          clear hL hL1 hL2 hlen hRd hS1 hs hsq
          by_cases c3 : c = 1
          · subst c3
            obtain rfl : L = 0 := by omega
            go_enter Tryd.func95, Tryd.ntmps95
            go_wp2
            refine wp_scope_once 0 (by rfl) ?_
            go_wp2_with (first | (go_at_call 129; refine (HS.out _).mono ?_; rintro e w2 ⟨v, rfl, hown, X, rfl⟩; obtain ⟨sa, sc, hv, k1, k2, k3⟩ := own_form hown; rw [HSL.out] at hv k1; subst hv) | (go_at_call 130; refine (contains_any S _ _ hown (by have := HSS.out; omega)).mono ?_; rintro e w3 ⟨rfl, X2, rfl⟩; rw [HCON.out]))
            refine wp_region_seqA (w) [(0, true), (1, true), (2, true), (3, true), (4, true), (5, true), (6, true), (7, true), (8, false), (9, false), (10, true)] (by (try show Ex _ _); repeat (first | (with_reducible exact ex_refl _) | (with_reducible assumption) | (with_reducible refine ex_drewL ?_) | (with_reducible refine ex_appR ?_ _) | (with_reducible refine ex_wx ?_ _) | (with_reducible refine ex_drew ?_) | (with_reducible refine ex_alloc ?_ _))) (by kernel_rfl) (by kernel_rfl) (fun _ _ d _ _ h => by cases d <;> exact h) ?_
            simp only [List.map_cons, List.map_nil, nth]
            repeat (first | ((with_reducible refine wpSeq_look ?_); go_big_quiet_step (fail); (with_reducible refine wpQuiet_nil ?_)) | ((with_reducible refine wpSeq_effF ?_ ?_); (focus rfl); go_simp) | ((with_reducible refine wpSeq_eff ?_ ?_); (focus rfl); (try dsimp only); go_wp2_with (fail); refine mixQ_mk (by (try show Ex _ _); repeat (first | (with_reducible exact ex_refl _) | (with_reducible assumption) | (with_reducible refine ex_drewL ?_) | (with_reducible refine ex_appR ?_ _) | (with_reducible refine ex_wx ?_ _) | (with_reducible refine ex_drew ?_) | (with_reducible refine ex_alloc ?_ _))) ?_))
            refine wpSeq_nil ?_
            go_wp2
            go_step3
            refine ⟨rfl, ?_⟩
            go_wp2
            exact ret_row3 (cs := rowB 32 fun _ => 0) (cs2 := rowB 32 fun _ => 0) (v := .bool false) Tryd.results95 Tryd.underlying46 rfl info_id rfl (by simp [go_sem]) rfl (by simp [go_sem]) rfl rfl (post_mk rfl (by (try show Ex _ _); repeat (first | (with_reducible exact ex_refl _) | (with_reducible assumption) | (with_reducible refine ex_drewL ?_) | (with_reducible refine ex_appR ?_ _) | (with_reducible refine ex_wx ?_ _) | (with_reducible refine ex_drew ?_) | (with_reducible refine ex_alloc ?_ _))))
          · go_enter Tryd.func95, Tryd.ntmps95
            go_wp2
            refine wp_scope_once 0 (by rfl) ?_
            go_wp2_with (first | (go_at_call 129; refine (HS.out _).mono ?_; rintro e w2 ⟨v, rfl, hown, X, rfl⟩; obtain ⟨sa, sc, hv, k1, k2, k3⟩ := own_form hown; rw [HSL.out] at hv k1; subst hv) | (go_at_call 130; refine (contains_any S _ _ hown (by have := HSS.out; omega)).mono ?_; rintro e w3 ⟨rfl, X2, rfl⟩; rw [HCON.out]))
            refine wp_region_seqA (w) [(0, true), (1, true), (2, true), (3, true), (4, true), (5, true), (6, true), (7, true), (8, false), (9, false), (10, true)] (by (try show Ex _ _); repeat (first | (with_reducible exact ex_refl _) | (with_reducible assumption) | (with_reducible refine ex_drewL ?_) | (with_reducible refine ex_appR ?_ _) | (with_reducible refine ex_wx ?_ _) | (with_reducible refine ex_drew ?_) | (with_reducible refine ex_alloc ?_ _))) (by kernel_rfl) (by kernel_rfl) (fun _ _ d _ _ h => by cases d <;> exact h) ?_
            simp only [List.map_cons, List.map_nil, nth]
            repeat (first | ((with_reducible refine wpSeq_look ?_); go_big_quiet_step (fail); (with_reducible refine wpQuiet_nil ?_)) | ((with_reducible refine wpSeq_effF ?_ ?_); (focus rfl); go_simp) | ((with_reducible refine wpSeq_eff ?_ ?_); (focus rfl); (try dsimp only); go_wp2_with (fail); refine mixQ_mk (by (try show Ex _ _); repeat (first | (with_reducible exact ex_refl _) | (with_reducible assumption) | (with_reducible refine ex_drewL ?_) | (with_reducible refine ex_appR ?_ _) | (with_reducible refine ex_wx ?_ _) | (with_reducible refine ex_drew ?_) | (with_reducible refine ex_alloc ?_ _))) ?_))
            refine wpSeq_nil ?_
            go_wp2
            go_step3
            refine ⟨rfl, ?_⟩
            go_wp2
            exact ret_row3 (cs := rowB 32 fun _ => 0) (cs2 := rowB 32 fun _ => 0) (v := .bool false) Tryd.results95 Tryd.underlying46 rfl info_id rfl (by simp [go_sem]) rfl (by simp [go_sem]) rfl rfl (post_mk rfl (by (try show Ex _ _); repeat (first | (with_reducible exact ex_refl _) | (with_reducible assumption) | (with_reducible refine ex_drewL ?_) | (with_reducible refine ex_appR ?_ _) | (with_reducible refine ex_wx ?_ _) | (with_reducible refine ex_drew ?_) | (with_reducible refine ex_alloc ?_ _))))
  · have hr : RootsD m n old p = none := if_neg hok
    rw [hr]
    unfold growOk at hok
    have hw : n < 1 ∨ (1 ≤ n ∧ 1024 < n) ∨ (1 ≤ n ∧ n ≤ 1024 ∧ m < 1) ∨ (1 ≤ n ∧ n ≤ 1024 ∧ 1 ≤ m ∧ n < m) := by
      rw [decide_eq_true_eq] at hok; omega
    clear hok hr hs
    generalize p.length = L at hc ⊢
    rcases hw with hw | ⟨hw1, hw⟩ | ⟨hw1, hw2, hw⟩ | ⟨hw1, hw2, hw3, hw⟩
    all_goals
      go_enter Tryd.func95, Tryd.ntmps95
      go_wp2
      refine wp_scope_once 0 (by rfl) ?_
      go_wp2
      go_step3
      refine ⟨rfl, ?_⟩
      go_wp2
      exact ret_row3 (cs := rowB 32 fun _ => 0) (cs2 := rowB 32 fun _ => 0) (v := .bool false) Tryd.results95 Tryd.underlying46 rfl info_id rfl (by simp [go_sem]) rfl (by simp [go_sem]) rfl rfl (post_mk rfl (by (try show Ex _ _); repeat (first | (with_reducible exact ex_refl _) | (with_reducible assumption) | (with_reducible refine ex_drewL ?_) | (with_reducible refine ex_appR ?_ _) | (with_reducible refine ex_wx ?_ _) | (with_reducible refine ex_drew ?_) | (with_reducible refine ex_alloc ?_ _))))
end Go.Proofs.YtcdocklbpfdmeaaDoor

/- Extends. -/
set_option linter.unusedSimpArgs false
set_option linter.unusedVariables false
set_option maxRecDepth 20000
namespace Go.Proofs.YtcdocklbpfdmeaaDoor
open Go.RowKit
set_option maxHeartbeats 1000000 in
theorem extends_any {w0 : World} (G : Glob w0) (m n : Int) (old now : Dg) (p : List Dg) (a : Option Addr) (c : Nat) : ∀ w, Ex w0 w → p.length ≤ c → c ≤ maxLen → SlD w a p →
    Calls Tryd.prog 55 #[I m, I n, .agg (rowB 32 (dF old)), .agg (rowB 32 (dF now)), .slice a p.length c] w (Post w (.bool (decide (RootsD m n old p = some (old, now))))) := by
  intro w k hc hcm hs
  replace G := G.ex k
  clear k
  have HC : Hid (∀ w', Ex w w' → Calls Tryd.prog 95 #[I m, I n, .agg (rowB 32 (dF old)), .slice a p.length c] w' (Post w' (rootsV (RootsD m n old p)))) := Lib.hid fun w' k => Roots_any G m n old p a c w' k hc hcm (hs.ex k)
  generalize RootsD m n old p = o at HC ⊢
  generalize p.length = L at HC hc ⊢
  clear hs
  cases o with
  | none =>
    have HC2 : Hid (∀ w', Ex w w' → Calls Tryd.prog 95 #[I m, I n, .agg (rowB 32 (dF old)), .slice a L c] w' (Post w' (.tuple #[.agg (rowB 32 fun _ => 0), .agg (rowB 32 fun _ => 0), .bool false]))) := HC
    have hd : decide ((none : Option (Dg × Dg)) = some (old, now)) = false := rfl
    rw [hd]
    clear HC
    go_enter Tryd.func55, Tryd.ntmps55
    go_wp2_with (go_at_call 95; (with_reducible refine (HC2.out _ (by (try show Ex _ _); repeat (first | (with_reducible exact ex_refl _) | (with_reducible assumption) | (with_reducible refine ex_drewL ?_) | (with_reducible refine ex_appR ?_ _) | (with_reducible refine ex_wx ?_ _) | (with_reducible refine ex_drew ?_) | (with_reducible refine ex_alloc ?_ _)))).mono ?_); rintro e w2 ⟨rfl, X, rfl⟩)
    go_ret
    exact post_mk rfl (by (try show Ex _ _); repeat (first | (with_reducible exact ex_refl _) | (with_reducible assumption) | (with_reducible refine ex_drewL ?_) | (with_reducible refine ex_appR ?_ _) | (with_reducible refine ex_wx ?_ _) | (with_reducible refine ex_drew ?_) | (with_reducible refine ex_alloc ?_ _)))
  | some x =>
    obtain ⟨x, y⟩ := x
    have HC2 : Hid (∀ w', Ex w w' → Calls Tryd.prog 95 #[I m, I n, .agg (rowB 32 (dF old)), .slice a L c] w' (Post w' (.tuple #[.agg (rowB 32 (dF x)), .agg (rowB 32 (dF y)), .bool true]))) := HC
    have hd : decide (some (x, y) = some (old, now)) = (decide (x = old) && decide (y = now)) := by
      rw [Bool.eq_iff_iff]; simp
    rw [hd]
    have he1 := eqD x old
    have he2 := eqD y now
    generalize decide (x = old) = b1 at he1 ⊢
    generalize decide (y = now) = b2 at he2 ⊢
    clear HC hd
    cases b1
    all_goals
      go_enter Tryd.func55, Tryd.ntmps55
      go_wp2_with (go_at_call 95; (with_reducible refine (HC2.out _ (by (try show Ex _ _); repeat (first | (with_reducible exact ex_refl _) | (with_reducible assumption) | (with_reducible refine ex_drewL ?_) | (with_reducible refine ex_appR ?_ _) | (with_reducible refine ex_wx ?_ _) | (with_reducible refine ex_drew ?_) | (with_reducible refine ex_alloc ?_ _)))).mono ?_); rintro e w2 ⟨rfl, X, rfl⟩)
      go_ret
      exact post_mk rfl (by (try show Ex _ _); repeat (first | (with_reducible exact ex_refl _) | (with_reducible assumption) | (with_reducible refine ex_drewL ?_) | (with_reducible refine ex_appR ?_ _) | (with_reducible refine ex_wx ?_ _) | (with_reducible refine ex_drew ?_) | (with_reducible refine ex_alloc ?_ _)))
end Go.Proofs.YtcdocklbpfdmeaaDoor

/- Collide: growths, the plain law: which are accepted, their clash, what it tells; by the whole width they are the history's. -/
set_option linter.unusedSimpArgs false
set_option linter.unusedVariables false
set_option linter.unnecessarySimpa false
set_option maxRecDepth 20000
namespace Go.Proofs.YtcdocklbpfdmeaaDoor
open Go.RowKit
/-- What is accepted, of both roots that a growth leads to. -/
def outG (old R : Dg) : Option (Dg × Dg × Cl) → Bool × Cl
  | some x => (decide (x.1 = old) && decide (x.2.1 = R), x.2.2)
  | none => (false, none)
/-- Whether a growth is accepted, and its first clash. -/
def extC (W : Int) (l : List (List UInt8)) (m : Int) (old : Dg) (proof : List Dg) : Bool × Cl :=
  if l.length ≤ 1024 ∧ 1 ≤ m ∧ m ≤ l.length ∧ 0 ≤ W ∧ W ≤ 256 then outG old (rootC (sumW W.toNat) l) (growC (sumW W.toNat) l m.toNat old true proof none) else (false, none)
/-- The clash of a growth. -/
def extT (W : Int) (l : List (List UInt8)) (m : Int) (old : Dg) (proof : List Dg) : Cl := tellC ((extC W l m old proof).1 && !decide (old = rootC (sumW W.toNat) (l.take m.toNat))) (extC W l m old proof).2
theorem ext_true {W : Int} {l : List (List UInt8)} {m : Int} {old : Dg} {proof : List Dg} (h : (extC W l m old proof).1 = true) : l.length ≤ 1024 ∧ 1 ≤ m ∧ m ≤ l.length ∧ 0 ≤ W ∧ W ≤ 256 := by
  unfold extC at h
  split at h
  · assumption
  · cases h
theorem growC_short {S : List UInt8 → Dg} (N : Nat) : ∀ (l : List (List UInt8)) (m : Nat) (old : Dg) (known : Bool) (proof : List Dg) (c : Cl) (x : Dg × Dg × Cl), l.length = N → 1 ≤ m → m ≤ l.length → growC S l m old known proof c = some x → ShortC c → ShortC x.2.2 := by
  induction N using Nat.strongRecOn with
  | _ N ih =>
    intro l m old known proof c x hN hm1 hm h hc
    by_cases ha : m = l.length
    · rw [growC_all ha] at h
      split at h
      · split at h
        · obtain rfl := Option.some.inj h; exact hc
        · cases h
      · obtain ⟨y, _, rfl⟩ := Option.map_eq_some_iff.1 h; exact hc
    · have h1 := split_lt (n := l.length) (by omega)
      have h3 := split_pos l.length
      rcases snoc_cases proof with rfl | ⟨r, p, rfl⟩
      · rw [growC_nil hm1 (by omega)] at h; cases h
      · by_cases hk : m ≤ splitN l.length
        · rw [growC_lo hm1 (by omega) hk] at h
          obtain ⟨y, hy, rfl⟩ := Option.map_eq_some_iff.1 h
          exact putC_short (ih _ (by rw [← hN, List.length_take]; omega) _ _ _ _ _ _ _ rfl hm1 (by rw [List.length_take]; omega) hy hc) (twoL_le _ _) (twoL_le _ _)
        · rw [growC_hi hm1 (by omega) hk] at h
          obtain ⟨y, hy, rfl⟩ := Option.map_eq_some_iff.1 h
          exact putC_short (ih _ (by rw [← hN, List.length_drop]; omega) _ _ _ _ _ _ _ rfl (by omega) (by rw [List.length_drop]; omega) hy hc) (twoL_le _ _) (twoL_le _ _)
/-- A told clash is one, and the growth was accepted. -/
theorem extT_is {W : Int} {l : List (List UInt8)} {m : Int} {old : Dg} {proof : List Dg} {x : List UInt8 × List UInt8} (h : extT W l m old proof = some x) : (extC W l m old proof).1 = true ∧ isC W x.1 x.2 = true ∧ x.1.length ≤ 1000 ∧ x.2.length ≤ 1000 := by
  have ht : (extC W l m old proof).1 = true ∧ (extC W l m old proof).2 = some x := by
    unfold extT tellC at h
    split at h
    · rename_i hh
      exact ⟨(Bool.and_eq_true_iff.1 hh).1, h⟩
    · cases h
  obtain ⟨h1, h2⟩ := ht
  obtain ⟨g1, g2, g3, g4, g5⟩ := ext_true h1
  refine ⟨h1, ?_⟩
  unfold extC at h2
  rw [if_pos ⟨g1, g2, g3, g4, g5⟩] at h2
  cases hc : growC (sumW W.toNat) l m.toNat old true proof none with
  | none => rw [hc] at h2; cases h2
  | some y =>
    rw [hc] at h2
    have hy : y.2.2 = some x := h2
    have a1 := growC_good _ _ _ _ _ _ _ _ rfl (by omega) (by omega) hc goodC_none x hy
    have a2 := growC_short _ _ _ _ _ _ _ _ rfl (by omega) (by omega) hc (fun _ h => by cases h) x hy
    refine ⟨?_, a2⟩
    unfold isC
    rw [show wideB W = true from decide_eq_true ⟨g4, g5⟩, decide_eq_false a1.1, decide_eq_true a1.2]
    rfl
/-- What is accepted without a clash is so. -/
theorem ext_so {W : Int} {l : List (List UInt8)} {m : Int} {old : Dg} {proof : List Dg} (h : (extC W l m old proof).1 = true) (ht : extT W l m old proof = none) : old = rootC (sumW W.toNat) (l.take m.toNat) := by
  obtain ⟨g1, g2, g3, g4, g5⟩ := ext_true h
  refine Classical.byContradiction fun hb => ?_
  unfold extT tellC at ht
  rw [h, decide_eq_false hb] at ht
  have ht : (extC W l m old proof).2 = none := ht
  unfold extC at h ht
  rw [if_pos ⟨g1, g2, g3, g4, g5⟩] at h ht
  cases hc : growC (sumW W.toNat) l m.toNat old true proof none with
  | none => rw [hc] at h; cases h
  | some y =>
    obtain ⟨a, b, c⟩ := y
    rw [hc] at h ht
    obtain rfl : c = none := ht
    have h : (decide (a = old) && decide (b = rootC (sumW W.toNat) l)) = true := h
    obtain ⟨e1, e2⟩ := Bool.and_eq_true_iff.1 h
    have e3 := growC_so _ _ _ _ _ _ _ _ _ rfl (by omega) (by omega) hc (of_decide_eq_true e2)
    exact hb (by rw [← e3]; exact (of_decide_eq_true e1).symm)
/-- By the whole width it is the history's. -/
theorem ext_hist {l : List (List UInt8)} (hl : l.length ≤ 1024) (m : Int) (old : Dg) (proof : List Dg) : (extC 256 l m old proof).1 = decide (RootsD m l.length old proof = some (old, rootD (l.map leafD))) := by
  unfold extC RootsD
  by_cases h : 1 ≤ m ∧ m ≤ l.length
  · rw [if_pos ⟨hl, h.1, h.2, by decide, by decide⟩, if_pos (show growOk m l.length = true from decide_eq_true (by omega))]
    have h1 := growC_roots l.length l m.toNat old true proof none rfl (by omega) (by omega)
    rw [show (256 : Int).toNat = 256 from rfl, sumW_full (Nat.le_refl _), Int.toNat_natCast, ← h1, rootC_root]
    cases growC sumD l m.toNat old true proof none with
    | none => rfl
    | some y =>
      obtain ⟨a, b, c⟩ := y
      rw [Bool.eq_iff_iff]
      simp [outG]
  · rw [if_neg (by rintro ⟨_, h1, h2, _⟩; exact h ⟨h1, h2⟩), if_neg (by rw [show growOk m l.length = false from decide_eq_false (by omega)]; decide)]
    rfl
end Go.Proofs.YtcdocklbpfdmeaaDoor
