import Derived.Test.YtdohohafdplkiaaMDkFg

/- DiskDepth, walked. -/
set_option linter.unusedSimpArgs false
set_option linter.unusedVariables false
set_option maxRecDepth 20000
namespace Go.Proofs.Ytdohohafdplkiaa
open Go.RowKit
theorem own_atBo {w : World} {Z g n cap : Nat} {l : List Bool} (h : w.ownsRow Z 4 1 (.slice (some ⟨g, 0, none⟩) n cap) n (l.flatMap KBo)) {i : Nat} {a : Bool} (hi : l[i]? = some a) :
    w.cell? ⟨g, i, none⟩ = some (.bool a) ∧ w.frozen? ⟨g, i, none⟩ = false ∧ Z ≤ g ∧ g < w.heap.size := by
  obtain ⟨h1, h2, h3⟩ := own_at KBo_len h hi
  have h4 := (cellsN_some.1 h1).2 0 (by omega)
  have h5 := frozenN_false.1 h2 0 (by omega)
  rw [Nat.mul_one, Nat.add_zero] at h4 h5
  exact ⟨h4, h5, h3⟩
theorem own_setBo {w : World} {Z g n cap : Nat} {l : List Bool} (h : w.ownsRow Z 4 1 (.slice (some ⟨g, 0, none⟩) n cap) n (l.flatMap KBo)) {i : Nat} (a : Bool) (hi : i < l.length) :
    (w.setCell ⟨g, i, none⟩ (.bool a)).ownsRow Z 4 1 (.slice (some ⟨g, 0, none⟩) n cap) n ((l.set i a).flatMap KBo) ∧ Below Z w (w.setCell ⟨g, i, none⟩ (.bool a)) := by
  have := own_set KBo_len (by omega) h a hi
  rwa [Nat.mul_one] at this
theorem ownz_read {w : World} {Z : Nat} {v : Value} {l : List Int} (h : OwnZ w Z v l) : SlV1 KZ 1 w v l := SlV1.of_own KZ_len (by omega) h
theorem ownbo_read {w : World} {Z : Nat} {v : Value} {l : List Bool} (h : OwnBo w Z v l) : SlV1 KBo 1 w v l := SlV1.of_own KBo_len (by omega) h
theorem ownbo_lt {w : World} {Z : Nat} {v : Value} {l : List Bool} (h : OwnBo w Z v l) {g : Nat} (hg : v.ownBlock = some g) : Z ≤ g ∧ g < w.heap.size := World.ownsRow.lt h g hg
theorem ownbo_ex {w w' : World} {Z : Nat} {v : Value} {l : List Bool} (h : OwnBo w Z v l) (k : Ex w w') : OwnBo w' Z v l := owns_ex h k
theorem kept_get {l : List Bool} {k : Nat} (h : k < l.length) : l[k]? = some (keptL l k) := by
  unfold keptL; rw [List.getD_eq_getElem?_getD, List.getElem?_eq_getElem h]; rfl
/-- The smaller one: behind a name, so that a walk does not part. -/
def imin (x y : Int) : Int := if y < x then y else x
theorem imin_nat (x y : Nat) : imin x y = ((min x y : Nat) : Int) := by unfold imin; split <;> omega
theorem run_imin {P : Program} (ts : Array TypeId) (t : TypeId) (k k' : IntKind) (x y : Int) (w : World) : (Builtin.min_ ts t #[.int k x, .int k' y]).run P w = .ok (.int k (imin x y)) w := run_min_int2 ..
attribute [local go_sem high] run_imin
set_option maxHeartbeats 8000000 in
theorem depth_any {w : World} {v : Value} {m : List (Ak × Value)} (h : AksV w v m) {a : Option Addr} {n c : Nat} {keep : List Bool} (hs : SlV1 KBo 1 w (.slice a n c) keep) (hg : ∀ g, (Value.slice a n c).ownBlock = some g → g < w.heap.size) :
    Calls Try.prog 8 #[v, .slice a n c] w (Post w (.bool true)) := by
  have hnc : n ≤ c ∧ c ≤ maxLen ∧ (a = none → c = 0) := by
    obtain ⟨a', c', e, h1, h2, h3, _⟩ := hs.out
    obtain ⟨rfl, rfl, rfl⟩ : a = a' ∧ n = keep.length ∧ c = c' := by simpa using e
    exact ⟨h1, h2, h3⟩
  obtain ⟨D0, hD0⟩ : ∃ D0, asksD (newD 9) ((m.map (·.1)).take 70) = D0 := ⟨_, rfl⟩
  have hB0 : AsB 70 D0 := by rw [← hD0]; exact asked_b _
  obtain ⟨l, hl⟩ : ∃ l, D0.qu.map (·.1) = l := ⟨_, rfl⟩
  obtain ⟨nq, hnq⟩ : ∃ nq, l.length = nq := ⟨_, rfl⟩
  have hqn : D0.qu.length = nq := by rw [← hnq, ← hl, List.length_map]
  have hq70 : nq ≤ 70 := by rw [← hqn]; exact hB0.qu
  obtain ⟨k0, hk0⟩ : ∃ k0, min n nq = k0 := ⟨_, rfl⟩
  have hk01 : k0 ≤ n := by omega
  have hk02 : k0 ≤ nq := by omega
  have himin : imin n nq = k0 := by rw [imin_nat, hk0]
  have HW := Lib.hid (wakes_any w)
  replace hk0 := Lib.hid hk0
  have HA : Hid (∀ W, Ex w W → Calls Try.prog 17 #[v] W fun e w' => ∃ p, e = .returned (PT p) ∧ DkO w w' p D0) := Lib.hid fun W k => (asked_any (h.ex k)).mono fun e w' hh => by
    obtain ⟨p, rfl, h1⟩ := hh
    rw [hD0] at h1
    exact ⟨p, rfl, h1.base k⟩
  have HP : Hid (∀ W p, DkO w W p D0 → Calls Try.prog 23 #[PT p] W fun e w' => ∃ a c, e = .returned (.slice a nq c) ∧ nq ≤ c ∧ OwnZ w' W.heap.size (.slice a nq c) l ∧ Ex W w') := Lib.hid fun W p hW => (pend_o hW).mono fun e w' hh => by
    obtain ⟨v, rfl, hO, k⟩ := hh
    rw [hl] at hO
    obtain ⟨a, c, rfl, hc, _⟩ := own_form hO
    rw [hnq] at hO hc ⊢
    exact ⟨a, c, rfl, hc, hO, k⟩
  have HCl : Hid (∀ W k, k ≤ n → k ≤ nq → Ex w W → Calls Try.prog 32 #[.slice a k c] W fun e w' => ∃ a' c' kp nk, e = .returned (.slice a' nk c') ∧ nk ≤ nq ∧ nk ≤ c' ∧ OwnBo w' W.heap.size (.slice a' nk c') kp ∧ kp.length = nk ∧ Ex W w') := Lib.hid fun W k h1 h2 kW => by
    obtain ⟨hs2, hkl⟩ := hs.take h1
    refine (cloneBo_any _ _ W (hs2.ex kW) (by omega)).mono fun e w' hh => ?_
    obtain ⟨v', rfl, hO, k⟩ := hh
    obtain ⟨a', c', rfl, hc, _⟩ := own_form hO
    rw [hkl] at hO hc ⊢
    exact ⟨a', c', _, _, rfl, h2, hc, hO, hkl, k⟩
  have HV : Hid (∀ W p kv kp, DkO w W p D0 → SlV1 KBo 1 W kv kp → (∀ g, kv.ownBlock = some g → g < W.heap.size) → Calls Try.prog 19 #[PT p, kv] W fun e w' => e = .returned (.tuple #[.agg (rowB 576 (nineF (viewD D0 kp))), .bool true]) ∧ Ex W w') := Lib.hid fun W p kv kp hW hs hg => view_k hW hB0.len (by have := hB0.ops; omega) hs hg
  have HY := Lib.hid (fun W => yes_all nq (by omega) W)
  obtain ⟨hnc1, hnc2, hnc3⟩ := hnc
  unfold maxLen at hnc2
  replace hs := Lib.hid hs
  replace hg := Lib.hid hg
  replace h := Lib.hid h
  replace hD0 := Lib.hid hD0
  replace hB0 := Lib.hid hB0
  replace hl := Lib.hid hl
  replace hnq := Lib.hid hnq
  replace hqn := Lib.hid hqn
  go_enter Try.func8, Try.ntmps8
  go_wp2_with (first | (go_at_call 9; (with_reducible refine HW.out.mono ?_); rintro e w1 ⟨rfl, X, rfl⟩) | (go_at_call 17; (with_reducible refine (HA.out _ (by (try show Ex _ _); repeat (first | (with_reducible exact ex_refl _) | (with_reducible assumption) | (with_reducible refine ex_drewL ?_) | (with_reducible refine ex_appR ?_ _) | (with_reducible refine ex_wx ?_ _) | (with_reducible refine ex_drew ?_) | (with_reducible refine ex_alloc ?_ _)))).mono ?_); rintro e w2 ⟨p, rfl, h2⟩; replace h2 := Lib.hid h2) | (go_at_call 23; (with_reducible refine (HP.out _ _ h2.out).mono ?_); rintro e w3 ⟨aq, cq, rfl, cq1, hQ, k3⟩; have h3 := Lib.hid (h2.out.grow k3); clear h2; replace hQ := Lib.hid hQ) | (go_at_call 32; (with_reducible refine (HCl.out _ _ (by omega) (by omega) h3.out.ex).mono ?_); rintro e w5 ⟨ak, ck, kp, nk, rfl, nk1, nk2, hK, hkl, k5⟩; have h5 := Lib.hid (h3.out.grow k5); replace hK := Lib.hid hK; replace hkl := Lib.hid hkl; replace k5 := Lib.hid k5) | (go_at_call 19; (with_reducible refine (HV.out _ _ _ _ h5.out (ownbo_read hK.out) (fun g hg' => (ownbo_lt hK.out hg').2)).mono ?_); rintro e w6 ⟨rfl, k6⟩; have h6 := Lib.hid (h5.out.grow k6); have hK6 := Lib.hid (ownbo_ex hK.out k6); have hgb := Lib.hid (fun g hg' => Nat.lt_of_lt_of_le (ownbo_lt hK.out (g := g) hg').2 (ex_size k6))))
  (
    obtain ⟨V, hV⟩ : ∃ V, viewD D0 kp = V := ⟨_, rfl⟩
    rw [hV]
    obtain ⟨la, hla⟩ : ∃ la, lastI kp nk = la := ⟨_, rfl⟩
    have hlb : -1 ≤ la ∧ la < nk := by rw [← hla]; exact lastI_b kp nk
    obtain ⟨kp', hkp'⟩ : ∃ kp', updL kp la nk = kp' := ⟨_, rfl⟩
    have hSat : Sat kp kp' := by rw [← hkp', ← hla, ← hkl.out]; exact updL_sat kp
    have hkl' : kp'.length = nk := by rw [← hkp', updL_len, hkl.out]
    have hV' : viewD D0 kp' = V := by rw [← hV]; exact (view_sat hSat (by rw [hkl.out, hqn.out]; exact nk1)).symm
    obtain ⟨H0, hH0⟩ : ∃ H0, D0.has = H0 := ⟨_, rfl⟩
    obtain ⟨M, hM⟩ : ∃ M, viewD D0 (List.replicate nq true) = M := ⟨_, rfl⟩
    have hok : DkOk D0 := by obtain ⟨L, _, hL, _⟩ := h6.out.out; exact hL.ok
    have HA1 : Hid (∀ i : Nat, i < 9 → livesB l kp' i nq = false → eqF (fun j => nineF V (i * 64 + j)) (fun j => nineF H0 (i * 64 + j)) 64 = true) := Lib.hid fun i hi hv => nine_eq (by
      rw [← hV', ← hH0]
      exact lives_has hok hSat (by rw [hkl.out, hqn.out]; exact nk1) (by rw [hB0.out.len]; exact hi) (by rw [hl.out, hqn.out]; exact hv))
    have HB1 : Hid (∀ i : Nat, i < 9 → ¬ (i : Int) ∈ l → eqF (fun j => nineF M (i * 64 + j)) (fun j => nineF H0 (i * 64 + j)) 64 = true) := Lib.hid fun i hi hv => nine_eq (by
      rw [← hM, ← hH0]
      exact none_has hok _ (by rw [hB0.out.len]; exact hi) (by rw [hl.out]; exact hv))
    have HV2 : Hid (∀ W p kv, DkO w W p D0 → SlV1 KBo 1 W kv kp' → (∀ g, kv.ownBlock = some g → g < W.heap.size) → Calls Try.prog 19 #[PT p, kv] W fun e w' => e = .returned (.tuple #[.agg (rowB 576 (nineF V)), .bool true]) ∧ Ex W w') := Lib.hid fun W p kv a1 a2 a3 => by
      have := HV.out W p kv kp' a1 a2 a3
      rwa [hV'] at this
    have HV3 : Hid (∀ W p, DkO w W p D0 → Calls Try.prog 19 #[PT p, .slice none 0 0] W fun e w' => e = .returned (.tuple #[.agg (rowB 576 (nineF H0)), .bool true]) ∧ Ex W w') := Lib.hid fun W p a1 => by
      have := HV.out W p (.slice none 0 0) [] a1 (SlV1.nil _ _ _) (fun g hg => by cases hg)
      rwa [view_nil, hH0] at this
    have HV4 : Hid (∀ W p kv, DkO w W p D0 → SlV1 KBo 1 W kv (List.replicate nq true) → (∀ g, kv.ownBlock = some g → g < W.heap.size) → Calls Try.prog 19 #[PT p, kv] W fun e w' => e = .returned (.tuple #[.agg (rowB 576 (nineF M)), .bool true]) ∧ Ex W w') := Lib.hid fun W p kv a1 a2 a3 => by
      have := HV.out W p kv _ a1 a2 a3
      rwa [hM] at this
    have hEq : eqF (nineF V) (nineF V) 576 = true := eqF_same _ _
    obtain ⟨b7, hb7⟩ : ∃ b7, w6.heap.size = b7 := ⟨_, rfl⟩
    obtain ⟨w7, hw7⟩ : ∃ w7, w6.alloc (.cells (rowB 576 (nineF V)) 48) = w7 := ⟨_, rfl⟩
    have k7 : Ex w6 w7 := by rw [← hw7]; exact ex_alloc (ex_refl _) _
    have B7 : Hid (w7.heap[b7]? = some (.cells (rowB 576 (nineF V)) 48 (0, 0))) := Lib.hid (by rw [← hw7, ← hb7]; exact heap_alloc_new _ _)
    have hK7 := Lib.hid (ownbo_ex hK6.out k7)
    have k37 := Lib.hid (ex_trans (ex_trans k5.out k6) k7)
    rw [hw7, hb7]
    rw [hb7] at hgb
    replace hV := Lib.hid hV
    replace hla := Lib.hid hla
    replace hkp' := Lib.hid hkp'
    replace hSat := Lib.hid hSat
    replace hkl' := Lib.hid hkl'
    replace hV' := Lib.hid hV'
    replace hH0 := Lib.hid hH0
    replace hM := Lib.hid hM
    replace hok := Lib.hid hok
    replace k6 := trivial
    replace k7 := trivial
    clear hw7 hb7
    go_loopw [9, 47] (fun y i W => ∃ k : Nat, k ≤ nk ∧ i = I k ∧ y = I (lastI kp k) ∧ Hid (Ex w7 W)) (fun _ i _ => nk - (intOf i).toNat)
    case atStart => exact ⟨0, by omega, rfl, rfl, Lib.hid (ex_refl _)⟩
    case round =>
      obtain ⟨k, hk, rfl, rfl, hX⟩ := hrel
      by_cases hlt : k < nk
      · have hlt2 : (k : Int) < nk := by omega
        have hKr := hK7.out
        unfold OwnBo at hKr
        rw [hkl.out] at hKr
        replace hKr := owns_ex hKr hX.out
        obtain ⟨g, cap, cur, hv, _⟩ := own_block hKr (by omega) (by omega)
        obtain ⟨rfl, rfl⟩ : ak = some ⟨g, 0, none⟩ ∧ ck = cap := by simpa using hv
        have hb : kp[k]? = some (keptL kp k) := kept_get (by rw [hkl.out]; exact hlt)
        obtain ⟨c1, f1, z1, z2⟩ := own_atBo hKr hb
        have hy := Lib.hid (fun h => lastI_yes (keep := kp) (k := k) h)
        have hn := Lib.hid (fun h => lastI_no (keep := kp) (k := k) h)
        clear hKr hv hb
        cases hbk : keptL kp k with
        | true =>
          rw [hbk] at c1 hy hn
          clear hbk
          go_wp2
          exact ⟨⟨k + 1, by omega, by go_num, by rw [hy.out rfl], hX⟩, by simp [intOf]; omega⟩
        | false =>
          rw [hbk] at c1 hy hn
          clear hbk
          go_wp2
          exact ⟨⟨k + 1, by omega, by go_num, by rw [hn.out rfl], hX⟩, by simp [intOf]; omega⟩
      · have hkn : k = nk := by omega
        subst k
        rw [hla.out]
        have hO0 : Hid (OwnBo wr w3.heap.size (.slice ak nk ck) (updL kp la 0)) := Lib.hid (by rw [updL_zero]; exact ownbo_ex hK7.out hX.out)
        have hX0 : Hid (Ex w3 wr) := Lib.hid (ex_trans k37.out hX.out)
        have hB0' : Hid (wr.heap[b7]? = some (.cells (rowB 576 (nineF V)) 48 (0, 0))) := Lib.hid (ex_block hX.out B7.out)
        clear hX hlt
        go_wp2
        go_loopw [57] (fun i W => ∃ k : Nat, k ≤ nk ∧ i = I k ∧ Hid (OwnBo W w3.heap.size (.slice ak nk ck) (updL kp la k)) ∧ Hid (Ex w3 W) ∧ Hid (W.heap[b7]? = some (.cells (rowB 576 (nineF V)) 48 (0, 0)))) (fun i _ => nk - (intOf i).toNat)
        case atStart => exact ⟨0, by omega, rfl, hO0, hX0, hB0'⟩
        case round =>
          obtain ⟨k, hk, rfl, hO, hX, hB⟩ := hrel
          by_cases hlt : k < nk
          · have hlt2 : (k : Int) < nk := by omega
            have hul : (updL kp la k).length = nk := by rw [updL_len, hkl.out]
            have hKr := hO.out
            unfold OwnBo at hKr
            rw [hul] at hKr
            obtain ⟨g, cap, cur, hv, _⟩ := own_block hKr (by omega) (by omega)
            obtain ⟨rfl, rfl⟩ : ak = some ⟨g, 0, none⟩ ∧ ck = cap := by simpa using hv
            have hb : kp[k]? = some (keptL kp k) := kept_get (by rw [hkl.out]; exact hlt)
            obtain ⟨c1, f1, z1, z2⟩ := own_atBo hKr (updL_at hb)
            have hgb7 := hgb.out g rfl
            have HS : Hid (∀ b, b = (keptL kp k || decide ((k : Int) + 4 ≤ la)) → OwnBo (wr.setCell ⟨g, k, none⟩ (.bool b)) w3.heap.size (.slice (some ⟨g, 0, none⟩) nk ck) (updL kp la (k + 1)) ∧ Ex w3 (wr.setCell ⟨g, k, none⟩ (.bool b)) ∧ (wr.setCell ⟨g, k, none⟩ (.bool b)).heap[b7]? = some (.cells (rowB 576 (nineF V)) 48 (0, 0))) := Lib.hid fun b e => by
              have h1 := own_setBo hKr b (i := k) (by rw [hul]; exact hlt)
              refine ⟨?_, ex_of_below ((ex_below hX.out).trans h1.2), ?_⟩
              · unfold OwnBo
                rw [← updL_set hb, ← e, List.length_set, hul]
                exact h1.1
              · rw [setCell_heap _ (by omega)]; exact hB.out
            clear hKr hv hb hul hgb7
            cases hbk : keptL kp k with
            | true =>
              rw [hbk] at c1 HS
              clear hbk
              go_wp2
              obtain ⟨s1, s2, s3⟩ := HS.out true (by simp)
              exact ⟨⟨k + 1, by omega, by go_num, Lib.hid s1, Lib.hid s2, Lib.hid s3⟩, by simp [intOf]; omega⟩
            | false =>
              rw [hbk] at c1 HS
              clear hbk
              by_cases hle : (k : Int) + 4 ≤ la
              · go_wp2
                obtain ⟨s1, s2, s3⟩ := HS.out true (by simp [hle])
                exact ⟨⟨k + 1, by omega, by go_num, Lib.hid s1, Lib.hid s2, Lib.hid s3⟩, by simp [intOf]; omega⟩
              · go_wp2
                obtain ⟨s1, s2, s3⟩ := HS.out false (by simp [hle])
                exact ⟨⟨k + 1, by omega, by go_num, Lib.hid s1, Lib.hid s2, Lib.hid s3⟩, by simp [intOf]; omega⟩
          · have hkn : k = nk := by omega
            subst k
            rw [hkp'.out] at hO
            generalize wr = w8 at *
            have h8 := Lib.hid (h3.out.grow hX.out)
            clear hlt hO0 hX0 hB0'
            go_wp2_with (first | (go_at_call 19; (with_reducible refine (HV2.out _ _ _ h8.out (ownbo_read hO.out) (fun g hg' => (ownbo_lt hO.out hg').2)).mono ?_); rintro e w9 ⟨rfl, k9⟩; have h9 := Lib.hid (h8.out.grow k9); have hB9 := Lib.hid (ex_block k9 hB.out); have hO9 := Lib.hid (ownbo_ex hO.out k9); obtain ⟨n7, f7⟩ := block_cells (n := 576) (ex_block k9 hB.out) (by simp); have z7 := (Array.getElem?_eq_some_iff.1 (ex_block k9 hB.out)).1; have K9 := Lib.hid k9; clear h8 k9) | (go_at_call 19; (with_reducible refine (HV3.out _ _ (h9.out.grow (by (try show Ex _ _); repeat (first | (with_reducible exact ex_refl _) | (with_reducible assumption) | (with_reducible refine ex_drewL ?_) | (with_reducible refine ex_appR ?_ _) | (with_reducible refine ex_wx ?_ _) | (with_reducible refine ex_drew ?_) | (with_reducible refine ex_alloc ?_ _))))).mono ?_); rintro e w10 ⟨rfl, k10⟩; have K10 : Hid (Ex w9 w10) := Lib.hid (ex_trans (by (try show Ex _ _); repeat (first | (with_reducible exact ex_refl _) | (with_reducible assumption) | (with_reducible refine ex_drewL ?_) | (with_reducible refine ex_appR ?_ _) | (with_reducible refine ex_wx ?_ _) | (with_reducible refine ex_drew ?_) | (with_reducible refine ex_alloc ?_ _))) k10); clear k10) | (go_at_call 31; (with_reducible refine (HY.out _).mono ?_); rintro e w11 ⟨v11, rfl, s11, g11, k11⟩; have K11 : Hid (Ex w10 w11) := Lib.hid (ex_trans (by (try show Ex _ _); repeat (first | (with_reducible exact ex_refl _) | (with_reducible assumption) | (with_reducible refine ex_drewL ?_) | (with_reducible refine ex_appR ?_ _) | (with_reducible refine ex_wx ?_ _) | (with_reducible refine ex_drew ?_) | (with_reducible refine ex_alloc ?_ _))) k11); replace s11 := Lib.hid s11; replace g11 := Lib.hid g11; have E10 : Hid (w11.heap[w10.heap.size]? = some (.cells (rowB 576 (nineF H0)) 48 (0, 0))) := Lib.hid (ex_block k11 (heap_alloc_new _ _)); clear k11) | (go_at_call 19; (with_reducible refine (HV4.out _ _ _ (h9.out.grow (ex_trans K10.out K11.out)) s11.out (fun g hg' => (g11.out g hg').2)).mono ?_); rintro e w12 ⟨rfl, k12⟩; have K12 : Hid (Ex w11 w12) := Lib.hid k12; clear k12))
            obtain ⟨b14, hb14⟩ : ∃ b14, w10.heap.size = b14 := ⟨_, rfl⟩
            obtain ⟨b15, hb15⟩ : ∃ b15, w12.heap.size = b15 := ⟨_, rfl⟩
            obtain ⟨wz, hwz⟩ : ∃ wz, w12.alloc (.cells (rowB 576 (nineF M)) 48) = wz := ⟨_, rfl⟩
            have k12z : Ex w12 wz := by rw [← hwz]; exact ex_alloc (ex_refl _) _
            have k9z : Ex w9 wz := ex_trans (ex_trans (ex_trans K10.out K11.out) K12.out) k12z
            have Z7 := ex_block k9z hB9.out
            have Z14 : wz.heap[b14]? = some (.cells (rowB 576 (nineF H0)) 48 (0, 0)) := by rw [← hb14]; exact ex_block (ex_trans K12.out k12z) E10.out
            have Z15 : wz.heap[b15]? = some (.cells (rowB 576 (nineF M)) 48 (0, 0)) := by rw [← hwz, ← hb15]; exact heap_alloc_new _ _
            have hOz := Lib.hid (ownbo_ex hO9.out k9z)
            have hQz : Hid (SlV1 KZ 1 wz (.slice aq nq cq) l) := Lib.hid ((ownz_read hQ.out).ex (ex_trans hX.out (ex_trans K9.out k9z)))
            replace Z7 := Lib.hid Z7
            replace Z14 := Lib.hid Z14
            replace Z15 := Lib.hid Z15
            have Kz := Lib.hid (ex_trans h9.out.ex k9z)
            rw [hwz, hb14, hb15]
            clear hwz hb14 hb15 k12z k9z n7 f7 z7 E10 K10 K11 K12 s11 g11
            go_loopw [106] (fun i W => ∃ k : Nat, k ≤ 9 ∧ i = I k ∧ Hid (Ex wz W)) (fun i _ => 9 - (intOf i).toNat)
            case atStart => exact ⟨0, by omega, rfl, Lib.hid (ex_refl _)⟩
            case round =>
              obtain ⟨k, hk, rfl, hX3⟩ := hrel
              by_cases hlt : k < 9
              · have hlt2 : (k : Int) < 9 := by omega
                go_wp2
                go_loopw [18, 111] (fun y i W => ∃ q : Nat, q ≤ nq ∧ i = I q ∧ y = .bool (livesB l kp' k q) ∧ Hid (Ex wr W)) (fun _ i _ => nq - (intOf i).toNat)
                case atStart => exact ⟨0, by omega, rfl, by rw [livesB_zero], Lib.hid (ex_refl _)⟩
                case round =>
                  obtain ⟨q, hq, rfl, rfl, hX4⟩ := hrel
                  have hXz := ex_trans hX3.out hX4.out
                  by_cases hqlt : q < nq
                  · have hqlt2 : (q : Int) < nq := by omega
                    obtain ⟨x, hx⟩ : ∃ x, l[q]? = some x := ⟨_, List.getElem?_eq_getElem (by rw [hnq.out]; exact hqlt)⟩
                    obtain ⟨aq', cq', e, _, _, _, hSq⟩ := (hQz.out.ex hXz).out
                    obtain rfl : aq = aq' := by simpa using (Value.slice.inj e).1
                    obtain ⟨g, off, rfl, g1, g2⟩ := hSq.int (k := q) (by rw [hnq.out]; exact hqlt)
                    have hxe : l[q]'(by rw [hnq.out]; exact hqlt) = x := Option.some.inj ((List.getElem?_eq_getElem _).symm.trans hx)
                    rw [hxe] at g2
                    have hst := Lib.hid (livesB_step (keep := kp') (i := k) hx)
                    have hqI : (q : Int) < 70 := by omega
                    clear hx hxe hSq
                    cases hlv : livesB l kp' k q with
                    | true =>
                      rw [hlv] at hst
                      clear hlv
                      go_wp2
                      exact ⟨⟨q + 1, by omega, by go_num, by rw [hst.out]; rfl, hX4⟩, by simp [intOf]; omega⟩
                    | false =>
                      rw [hlv, Bool.false_or] at hst
                      clear hlv
                      by_cases hxk : x = k
                      · subst hxk
                        rw [decide_eq_true rfl, Bool.true_and] at hst
                        by_cases hqk : q < nk
                        · have hqk2 : (q : Int) < nk := by omega
                          have hKr := ownbo_ex hOz.out hXz
                          unfold OwnBo at hKr
                          rw [hkl'.out] at hKr
                          obtain ⟨g3, cap3, cur3, hv3, _⟩ := own_block hKr (by omega) (by omega)
                          obtain ⟨rfl, rfl⟩ : ak = some ⟨g3, 0, none⟩ ∧ ck = cap3 := by simpa using hv3
                          obtain ⟨c3, f3, z3, z4⟩ := own_atBo hKr (kept_get (by rw [hkl'.out]; exact hqk))
                          clear hKr hv3
                          cases hbk : keptL kp' q with
                          | true =>
                            rw [hbk] at c3 hst
                            clear hbk
                            go_wp2
                            exact ⟨⟨q + 1, by omega, by go_num, by rw [hst.out], hX4⟩, by simp [intOf]; omega⟩
                          | false =>
                            rw [hbk] at c3 hst
                            clear hbk
                            go_wp2
                            exact ⟨⟨q + 1, by omega, by go_num, by rw [hst.out], hX4⟩, by simp [intOf]; omega⟩
                        · have hqk2 : ¬ (q : Int) < nk := by omega
                          have hkf : Hid (keptL kp' q = false) := Lib.hid (by
                            cases hc : keptL kp' q with
                            | false => rfl
                            | true => have := kept_lt hc; rw [hkl'.out] at this; omega)
                          rw [hkf.out] at hst
                          go_wp2
                          exact ⟨⟨q + 1, by omega, by go_num, by rw [hst.out], hX4⟩, by simp [intOf]; omega⟩
                      · have hxb : (x == (k : Int)) = false := by simpa using hxk
                        rw [decide_eq_false hxk, Bool.false_and] at hst
                        go_wp2
                        exact ⟨⟨q + 1, by omega, by go_num, by rw [hst.out], hX4⟩, by simp [intOf]; omega⟩
                  · have hqn' : q = nq := by omega
                    subst q
                    go_wp2
                    obtain ⟨r7, s7⟩ := row_part (o := k * 64) (ex_block hXz Z7.out) (by omega)
                    obtain ⟨r14, s14⟩ := row_part (o := k * 64) (ex_block hXz Z14.out) (by omega)
                    obtain ⟨r15, s15⟩ := row_part (o := k * 64) (ex_block hXz Z15.out) (by omega)
                    have z7 := (Array.getElem?_eq_some_iff.1 (ex_block hXz Z7.out)).1
                    have z14 := (Array.getElem?_eq_some_iff.1 (ex_block hXz Z14.out)).1
                    have z15 := (Array.getElem?_eq_some_iff.1 (ex_block hXz Z15.out)).1
                    have HCn := Lib.hid (fun W kW => contains_any l (.slice aq nq cq) k W (hQz.out.ex (ex_trans hXz kW)))
                    have hXz' := Lib.hid hXz
                    clear hXz
                    cases hlv : livesB l kp' k nq with
                    | true =>
                      clear hlv
                      by_cases hin : (k : Int) ∈ l
                      · rw [decide_eq_true hin] at HCn
                        clear hin
                        refine wp_region_fork (wr) (.look 0 (.look 1 (.look 2 (.look 3 (.look 4 (.look 5 (.look 6 (.look 7 (.look 8 (.look 9 (.look 10 (.look 11 (.look 12 (.look 13 (.eff 14 (.look 15 (.look 16 (.look 17 (.look 18 (.look 19 (.look 20 (.look 21 (.look 22 (.look 23 (.look 24 (.look 25 .done)))))))))))))))))))))))))) (by (try show Ex _ _); repeat (first | (with_reducible exact ex_refl _) | (with_reducible assumption) | (with_reducible refine ex_drewL ?_) | (with_reducible refine ex_appR ?_ _) | (with_reducible refine ex_wx ?_ _) | (with_reducible refine ex_drew ?_) | (with_reducible refine ex_alloc ?_ _))) (by kernel_rfl) (by kernel_rfl) (fun _ _ d _ _ h => by cases d <;> exact h) ?_
                        simp only [Fk.ops, nth]
                        repeat (first | ((with_reducible refine wpFork_look ?_); go_big_quiet_step (fail); (try (with_reducible refine wpQuiet_nil ?_))) | (with_reducible refine wpFork_eff ?_) | ((with_reducible refine effT_F ?_ ?_); (focus rfl); go_simp) | ((with_reducible refine effT_T ?_ ?_); (focus rfl); (try dsimp only); go_wp2_with ((go_at_call 33; (with_reducible refine (HCn.out _ (by (try show Ex _ _); repeat (first | (with_reducible exact ex_refl _) | (with_reducible assumption) | (with_reducible refine ex_drewL ?_) | (with_reducible refine ex_appR ?_ _) | (with_reducible refine ex_wx ?_ _) | (with_reducible refine ex_drew ?_) | (with_reducible refine ex_alloc ?_ _)))).mono ?_); rintro e w20 ⟨rfl, X20, rfl⟩)); refine mixQ_mk (by (try show Ex _ _); repeat (first | (with_reducible exact ex_refl _) | (with_reducible assumption) | (with_reducible refine ex_drewL ?_) | (with_reducible refine ex_appR ?_ _) | (with_reducible refine ex_wx ?_ _) | (with_reducible refine ex_drew ?_) | (with_reducible refine ex_alloc ?_ _))) ?_))
                        all_goals (with_reducible refine wpFork_nil ?_)
                        go_wp2
                        exact ⟨⟨k + 1, by omega, by go_num, Lib.hid (ex_trans hX3.out (ex_trans hX4.out (by (try show Ex _ _); repeat (first | (with_reducible exact ex_refl _) | (with_reducible assumption) | (with_reducible refine ex_drewL ?_) | (with_reducible refine ex_appR ?_ _) | (with_reducible refine ex_wx ?_ _) | (with_reducible refine ex_drew ?_) | (with_reducible refine ex_alloc ?_ _)))))⟩, by simp [intOf]; omega⟩
                      · have hE2 := HB1.out k hlt hin
                        rw [decide_eq_false hin] at HCn
                        clear hin
                        refine wp_region_fork (wr) (.look 0 (.look 1 (.look 2 (.look 3 (.look 4 (.look 5 (.look 6 (.look 7 (.look 8 (.look 9 (.look 10 (.look 11 (.look 12 (.look 13 (.eff 14 (.look 15 (.look 16 (.look 17 (.look 18 (.look 19 (.look 20 (.look 21 (.look 22 (.look 23 (.look 24 (.look 25 .done)))))))))))))))))))))))))) (by (try show Ex _ _); repeat (first | (with_reducible exact ex_refl _) | (with_reducible assumption) | (with_reducible refine ex_drewL ?_) | (with_reducible refine ex_appR ?_ _) | (with_reducible refine ex_wx ?_ _) | (with_reducible refine ex_drew ?_) | (with_reducible refine ex_alloc ?_ _))) (by kernel_rfl) (by kernel_rfl) (fun _ _ d _ _ h => by cases d <;> exact h) ?_
                        simp only [Fk.ops, nth]
                        repeat (first | ((with_reducible refine wpFork_look ?_); go_big_quiet_step (fail); (try (with_reducible refine wpQuiet_nil ?_))) | (with_reducible refine wpFork_eff ?_) | ((with_reducible refine effT_F ?_ ?_); (focus rfl); go_simp) | ((with_reducible refine effT_T ?_ ?_); (focus rfl); (try dsimp only); go_wp2_with ((go_at_call 33; (with_reducible refine (HCn.out _ (by (try show Ex _ _); repeat (first | (with_reducible exact ex_refl _) | (with_reducible assumption) | (with_reducible refine ex_drewL ?_) | (with_reducible refine ex_appR ?_ _) | (with_reducible refine ex_wx ?_ _) | (with_reducible refine ex_drew ?_) | (with_reducible refine ex_alloc ?_ _)))).mono ?_); rintro e w20 ⟨rfl, X20, rfl⟩)); refine mixQ_mk (by (try show Ex _ _); repeat (first | (with_reducible exact ex_refl _) | (with_reducible assumption) | (with_reducible refine ex_drewL ?_) | (with_reducible refine ex_appR ?_ _) | (with_reducible refine ex_wx ?_ _) | (with_reducible refine ex_drew ?_) | (with_reducible refine ex_alloc ?_ _))) ?_))
                        all_goals (with_reducible refine wpFork_nil ?_)
                        go_wp2
                        exact ⟨⟨k + 1, by omega, by go_num, Lib.hid (ex_trans hX3.out (ex_trans hX4.out (by (try show Ex _ _); repeat (first | (with_reducible exact ex_refl _) | (with_reducible assumption) | (with_reducible refine ex_drewL ?_) | (with_reducible refine ex_appR ?_ _) | (with_reducible refine ex_wx ?_ _) | (with_reducible refine ex_drew ?_) | (with_reducible refine ex_alloc ?_ _)))))⟩, by simp [intOf]; omega⟩
                    | false =>
                      have hE1 := HA1.out k hlt hlv
                      clear hlv
                      by_cases hin : (k : Int) ∈ l
                      · rw [decide_eq_true hin] at HCn
                        clear hin
                        refine wp_region_fork (wr) (.look 0 (.look 1 (.look 2 (.look 3 (.look 4 (.look 5 (.look 6 (.look 7 (.look 8 (.look 9 (.look 10 (.look 11 (.look 12 (.look 13 (.eff 14 (.look 15 (.look 16 (.look 17 (.look 18 (.look 19 (.look 20 (.look 21 (.look 22 (.look 23 (.look 24 (.look 25 .done)))))))))))))))))))))))))) (by (try show Ex _ _); repeat (first | (with_reducible exact ex_refl _) | (with_reducible assumption) | (with_reducible refine ex_drewL ?_) | (with_reducible refine ex_appR ?_ _) | (with_reducible refine ex_wx ?_ _) | (with_reducible refine ex_drew ?_) | (with_reducible refine ex_alloc ?_ _))) (by kernel_rfl) (by kernel_rfl) (fun _ _ d _ _ h => by cases d <;> exact h) ?_
                        simp only [Fk.ops, nth]
                        repeat (first | ((with_reducible refine wpFork_look ?_); go_big_quiet_step (fail); (try (with_reducible refine wpQuiet_nil ?_))) | (with_reducible refine wpFork_eff ?_) | ((with_reducible refine effT_F ?_ ?_); (focus rfl); go_simp) | ((with_reducible refine effT_T ?_ ?_); (focus rfl); (try dsimp only); go_wp2_with ((go_at_call 33; (with_reducible refine (HCn.out _ (by (try show Ex _ _); repeat (first | (with_reducible exact ex_refl _) | (with_reducible assumption) | (with_reducible refine ex_drewL ?_) | (with_reducible refine ex_appR ?_ _) | (with_reducible refine ex_wx ?_ _) | (with_reducible refine ex_drew ?_) | (with_reducible refine ex_alloc ?_ _)))).mono ?_); rintro e w20 ⟨rfl, X20, rfl⟩)); refine mixQ_mk (by (try show Ex _ _); repeat (first | (with_reducible exact ex_refl _) | (with_reducible assumption) | (with_reducible refine ex_drewL ?_) | (with_reducible refine ex_appR ?_ _) | (with_reducible refine ex_wx ?_ _) | (with_reducible refine ex_drew ?_) | (with_reducible refine ex_alloc ?_ _))) ?_))
                        all_goals (with_reducible refine wpFork_nil ?_)
                        go_wp2
                        exact ⟨⟨k + 1, by omega, by go_num, Lib.hid (ex_trans hX3.out (ex_trans hX4.out (by (try show Ex _ _); repeat (first | (with_reducible exact ex_refl _) | (with_reducible assumption) | (with_reducible refine ex_drewL ?_) | (with_reducible refine ex_appR ?_ _) | (with_reducible refine ex_wx ?_ _) | (with_reducible refine ex_drew ?_) | (with_reducible refine ex_alloc ?_ _)))))⟩, by simp [intOf]; omega⟩
                      · have hE2 := HB1.out k hlt hin
                        rw [decide_eq_false hin] at HCn
                        clear hin
                        refine wp_region_fork (wr) (.look 0 (.look 1 (.look 2 (.look 3 (.look 4 (.look 5 (.look 6 (.look 7 (.look 8 (.look 9 (.look 10 (.look 11 (.look 12 (.look 13 (.eff 14 (.look 15 (.look 16 (.look 17 (.look 18 (.look 19 (.look 20 (.look 21 (.look 22 (.look 23 (.look 24 (.look 25 .done)))))))))))))))))))))))))) (by (try show Ex _ _); repeat (first | (with_reducible exact ex_refl _) | (with_reducible assumption) | (with_reducible refine ex_drewL ?_) | (with_reducible refine ex_appR ?_ _) | (with_reducible refine ex_wx ?_ _) | (with_reducible refine ex_drew ?_) | (with_reducible refine ex_alloc ?_ _))) (by kernel_rfl) (by kernel_rfl) (fun _ _ d _ _ h => by cases d <;> exact h) ?_
                        simp only [Fk.ops, nth]
                        repeat (first | ((with_reducible refine wpFork_look ?_); go_big_quiet_step (fail); (try (with_reducible refine wpQuiet_nil ?_))) | (with_reducible refine wpFork_eff ?_) | ((with_reducible refine effT_F ?_ ?_); (focus rfl); go_simp) | ((with_reducible refine effT_T ?_ ?_); (focus rfl); (try dsimp only); go_wp2_with ((go_at_call 33; (with_reducible refine (HCn.out _ (by (try show Ex _ _); repeat (first | (with_reducible exact ex_refl _) | (with_reducible assumption) | (with_reducible refine ex_drewL ?_) | (with_reducible refine ex_appR ?_ _) | (with_reducible refine ex_wx ?_ _) | (with_reducible refine ex_drew ?_) | (with_reducible refine ex_alloc ?_ _)))).mono ?_); rintro e w20 ⟨rfl, X20, rfl⟩)); refine mixQ_mk (by (try show Ex _ _); repeat (first | (with_reducible exact ex_refl _) | (with_reducible assumption) | (with_reducible refine ex_drewL ?_) | (with_reducible refine ex_appR ?_ _) | (with_reducible refine ex_wx ?_ _) | (with_reducible refine ex_drew ?_) | (with_reducible refine ex_alloc ?_ _))) ?_))
                        all_goals (with_reducible refine wpFork_nil ?_)
                        go_wp2
                        exact ⟨⟨k + 1, by omega, by go_num, Lib.hid (ex_trans hX3.out (ex_trans hX4.out (by (try show Ex _ _); repeat (first | (with_reducible exact ex_refl _) | (with_reducible assumption) | (with_reducible refine ex_drewL ?_) | (with_reducible refine ex_appR ?_ _) | (with_reducible refine ex_wx ?_ _) | (with_reducible refine ex_drew ?_) | (with_reducible refine ex_alloc ?_ _)))))⟩, by simp [intOf]; omega⟩
              · have hk9 : k = 9 := by omega
                subst k
                go_wp2
                go_ret
                exact post_mk' rfl (ex_trans Kz.out hX3.out))
end Go.Proofs.Ytdohohafdplkiaa
