import Derived.Test.YtdohohafdplkiaaMDkDo

/- DiskRuns, walked. -/
set_option linter.unusedSimpArgs false
set_option linter.unusedVariables false
set_option maxRecDepth 20000
namespace Go.Proofs.Ytdohohafdplkiaa
open Go.RowKit
theorem row_det {W : World} {b : Nat} {a1 a2 b1 b2 : Value} {d : Dk} {t : TypeId} {fr : Nat × Nat} (h1 : W.heap[b]? = some (.cells (rowD a1 a2 d) t fr)) (h2 : W.heap[b]? = some (.cells (rowD b1 b2 d) t fr)) : a1 = b1 ∧ a2 = b2 := by
  rw [h1] at h2
  unfold rowD at h2
  simp at h2
  exact h2
theorem St1.of {F : Nat → Prop} {w W W' : World} {p b : Nat} {d dm : Dk} (h0 : St1 F w W p b d dm) (k : Ex W W') (a : Ak) (kv : Value) (hs : SlV1 KBo 1 W' kv a.keep) (hb : AkB a) (hops : d.ops < 1000000000) (hq : d.qu.length < 1000000) :
    Calls Try.prog 14 #[AV a kv, PT p] W' fun e w' => e = .returned (.tuple #[.agg (rowB 64 (bkF (askD a d).2.1)), I (askD a d).2.2]) ∧ St1 F w w' p b (askD a d).1 dm ∧ ∀ c, W.heap.size ≤ c → c < W'.heap.size → w'.heap[c]? = W'.heap[c]? := by
  have h := h0.grow k
  obtain ⟨L, hv, qv, N, h1, h2, h3, h4, h5, h6, h7, h8⟩ := h0.out
  have hlt := fun c (hc : L.own c) => h2.lt hc
  have h6 := ex_block k h6
  have hN : ∀ g, N g → ¬ L.own g ∧ g < W'.heap.size := fun g hg => ⟨(h8 g hg).1, Nat.lt_of_lt_of_le (h8 g hg).2.2.1 (ex_size k)⟩
  have hz := (Array.getElem?_eq_some_iff.1 h6).1
  have hsz := ex_size k
  have := of_any (h2.ex k) a kv hs hb hops hq
  rw [h1] at this
  refine this.mono fun e w' hh => ?_
  obtain ⟨L', rfl, k1, k2⟩ := hh
  refine ⟨rfl, ⟨ex_of_below ((ex_below h.ex).trans (k2.below (ex_size h.ex) h3)), h.fl, L', hv, qv, N, k2.pp.trans h1, k1, fun c hc => (k2.own hc).elim (h3 c) fun e => Nat.le_trans (ex_size h.ex) e, h4, fun e => (k2.own e).elim h5 fun e => by omega, (k2.same b hz h5).trans h6, rdn_dv (h7.ex k) hN k2, fun g hg => ?_⟩, fun c c1 c2 => k2.same c c2 fun e => by have := hlt c e; omega⟩
  obtain ⟨g1, g2, g3, g4⟩ := h8 g hg
  exact ⟨fun e => (k2.own e).elim g1 fun e => by omega, g2, Nat.lt_of_lt_of_le (Nat.lt_of_lt_of_le g3 hsz) k2.size, g4⟩
structure AsK (n : Nat) (d : Dk) : Prop where
  ops : d.ops ≤ n
  qu : d.qu.length ≤ n
theorem asks_k {s n : Nat} {l : List Ak} (h : l.length ≤ n) : AsK n (asksD (newD s) l) := by
  have h1 := asks_b l (newd_b s)
  exact ⟨by have := h1.2; omega, by have := h1.1; omega⟩
set_option maxHeartbeats 1500000 in
theorem runs_any {w : World} {v : Value} {m : List (Ak × Value)} (h : AksV w v m) (n0 : Int) : Calls Try.prog 3 #[I n0, v] w (Post w (.bool true)) := by
  obtain ⟨a, c, rfl, h1, h2, h3, hr⟩ := h.row.out
  obtain ⟨s, hs⟩ : ∃ s, sizeN n0 = s := ⟨_, rfl⟩
  have hsb := sizeN_le n0
  have HSz := Lib.hid (fun W => size_any n0 W)
  rw [hs] at hsb HSz
  obtain ⟨s1, s2⟩ := hsb
  have HW := Lib.hid (wakes_any w)
  have HN := Lib.hid (fun W (k : Ex w W) => new_o (w := w) s s1 (by omega) k)
  have HM := Lib.hid (fun W => made_any s s1 (by omega) W)
  have HR := Lib.hid hr
  have HA := Lib.hid h
  unfold maxLen at h2
  clear h hr h3
  obtain ⟨n, hn⟩ : ∃ n, m.length = n := ⟨_, rfl⟩
  have HL := Lib.hid hn
  rw [hn] at h1 ⊢
  replace hs := Lib.hid hs
  clear hn
  go_enter Try.func3, Try.ntmps3
  go_wp2_with (first | (go_at_call 9; (with_reducible refine HW.out.mono ?_); rintro e w1 ⟨rfl, X1, rfl⟩) | (go_at_call 11; (with_reducible refine (HSz.out _).mono ?_); rintro e w2 ⟨rfl, X2, rfl⟩) | (go_at_call 10; (with_reducible refine (HN.out _ (by (try show Ex _ _); repeat (first | (with_reducible exact ex_refl _) | (with_reducible assumption) | (with_reducible refine ex_drewL ?_) | (with_reducible refine ex_appR ?_ _) | (with_reducible refine ex_wx ?_ _) | (with_reducible refine ex_drew ?_) | (with_reducible refine ex_alloc ?_ _)))).mono ?_); rintro e w3 ⟨p, rfl, h3⟩; replace h3 := Lib.hid h3) | (go_at_call 12; (with_reducible refine (HM.out _).mono ?_); rintro e w5 ⟨v5, rfl, hV5, k5⟩; have k35 : Ex w3 w5 := ex_trans (by (try show Ex _ _); repeat (first | (with_reducible exact ex_refl _) | (with_reducible assumption) | (with_reducible refine ex_drewL ?_) | (with_reducible refine ex_appR ?_ _) | (with_reducible refine ex_wx ?_ _) | (with_reducible refine ex_drew ?_) | (with_reducible refine ex_alloc ?_ _))) k5; obtain ⟨hv5, qv5, e5, o1, o2, hS⟩ := St1.start (dm := newD s) h3.out k35 (hV5.mono fun g hg => hg.elim (fun h => h.elim) fun h => Or.inr (Nat.le_trans (ex_size (by (try show Ex _ _); repeat (first | (with_reducible exact ex_refl _) | (with_reducible assumption) | (with_reducible refine ex_drewL ?_) | (with_reducible refine ex_appR ?_ _) | (with_reducible refine ex_wx ?_ _) | (with_reducible refine ex_drew ?_) | (with_reducible refine ex_alloc ?_ _)))) h)); unfold rowD at e5; subst e5; obtain ⟨hvt, qvt, et, _, _, HTl⟩ := hS.tells; obtain ⟨rfl, rfl⟩ := row_det (heap_alloc_new _ _) et; unfold rowD at HTl; replace HTl := Lib.hid HTl; replace hS := Lib.hid hS; clear hV5 k5 et) | (go_at_call 13; (with_reducible refine (HTl.out _ (by (try show Ex _ _); repeat (first | (with_reducible exact ex_refl _) | (with_reducible assumption) | (with_reducible refine ex_drewL ?_) | (with_reducible refine ex_appR ?_ _) | (with_reducible refine ex_wx ?_ _) | (with_reducible refine ex_drew ?_) | (with_reducible refine ex_alloc ?_ _)))).mono ?_); rintro e w6 ⟨rfl, X6, rfl⟩))
  obtain ⟨W0, hW0⟩ : ∃ W0, wx (w5.alloc (.cells #[hv5, qv5, I (newD s).ar, I (newD s).dm, .bool (newD s).dark, I ((newD s).ops : Nat)] 32)) X6 = W0 := ⟨_, rfl⟩
  obtain ⟨b, hb⟩ : ∃ b, w5.heap.size = b := ⟨_, rfl⟩
  have H0 : Hid (St1 (fun _ => False) w W0 p b (newD s) (newD s)) := Lib.hid (by rw [← hW0, ← hb]; exact hS.out.grow (ex_wx (ex_refl _) _))
  rw [hW0, hb]
  clear hS HTl hW0 hb h3 k35
  obtain ⟨l, hl⟩ : ∃ l, m.map (·.1) = l := ⟨_, rfl⟩
  have Hl := Lib.hid hl
  clear hl
  go_loopw [35] (fun i W => ∃ k : Nat, k ≤ n ∧ k ≤ 90 ∧ i = I k ∧ Hid (St1 (fun _ => False) w W p b (asksD (newD s) (l.take k)) (asksD (newD s) (l.take k)))) (fun i _ => n - (intOf i).toNat)
  case atStart => exact ⟨0, by omega, by omega, rfl, H0⟩
  case round =>
    obtain ⟨k, hk, hk90, rfl, hSt⟩ := hrel
    have hB : AsK 100 (asksD (newD s) (l.take k)) := asks_k (Nat.le_trans (by rw [List.length_take]; omega) (show k ≤ 100 by omega))
    by_cases hlt : k < n
    · have hlt2 : (k : Int) < n := by omega
      have hkm : k < m.length := by rw [HL.out]; exact hlt
      obtain ⟨x, hx⟩ : ∃ x, m[k]? = some x := ⟨_, List.getElem?_eq_getElem hkm⟩
      have hxm : x ∈ m := List.mem_of_getElem? hx
      obtain ⟨g, off, rfl, hg, _⟩ := HR.out.pos (by rw [HL.out]; omega)
      obtain ⟨hc, _⟩ := (HR.out.ex hSt.out.ex).at hx
      have hgr := Nat.lt_of_lt_of_le hg (ex_size hSt.out.ex)
      have hkv : x.2.oneCell' = true := by obtain ⟨ka, kc, e, _⟩ := (HA.out.keep x hxm).out; rw [e]; rfl
      have hkp := Lib.hid (HA.out.keep x hxm)
      have hab := Lib.hid (HA.out.ok x hxm)
      have hst : Hid (asksD (newD s) (l.take (k + 1)) = (askD x.1 (asksD (newD s) (l.take k))).1) := Lib.hid (by
        have hlk : l[k]? = some x.1 := by rw [← Hl.out, List.getElem?_map, hx]; rfl
        have hkl := (List.getElem?_eq_some_iff.1 hlk).1
        rw [List.take_succ_eq_append_getElem hkl, (List.getElem?_eq_some_iff.1 hlk).2]
        unfold asksD
        rw [List.foldl_append]; rfl)
      unfold KA at hc
      have HSec := hSt.out.sectors (by have := hB.ops; omega)
      have hok := Lib.hid hSt.out.ok
      generalize asksD (newD s) (l.take k) = d at *
      obtain ⟨hB1, hB2⟩ := hB
      by_cases h90 : k = 90
      · have e90 : ((k : Int) == 90) = true := by simp [h90]
        obtain ⟨hvS, qvS, hbS, oS1, oS2, HSe⟩ := HSec
        unfold rowD at hbS HSe
        have nS := (block_cells (n := 6) hbS rfl).1
        have zS := (Array.getElem?_eq_some_iff.1 hbS).1
        replace HSe := Lib.hid HSe
        clear hx hxm hkm h90 hbS
        go_wp2_with (go_at_call 16; (with_reducible refine (HSe.out _ (by (try show Ex _ _); repeat (first | (with_reducible exact ex_refl _) | (with_reducible assumption) | (with_reducible refine ex_drewL ?_) | (with_reducible refine ex_appR ?_ _) | (with_reducible refine ex_wx ?_ _) | (with_reducible refine ex_drew ?_) | (with_reducible refine ex_alloc ?_ _)))).mono ?_); rintro e w9 ⟨rfl, k9⟩)
        go_ret
        exact post_mk' rfl k9
      · have e90 : ((k : Int) == 90) = false := by simp; omega
        have hk91 := Lib.hid (show k + 1 ≤ 90 by omega)
        have HOf := Lib.hid (fun W (kW : Ex wr W) => hSt.out.of kW x.1 x.2 (hkp.out.ex (ex_trans hSt.out.ex kW)) hab.out (by omega) (by omega))
        have hB3 : (askD x.1 d).1.ops < 1000000 := by have := (ask_b (a := x.1) (k := 100) (d := d) ⟨hB2, hB1⟩).2; omega
        obtain ⟨r, hr⟩ : ∃ r, askD x.1 d = r := ⟨_, rfl⟩
        rw [hr] at HOf hst hB3
        unfold AV at HOf
        replace hr := Lib.hid hr
        obtain ⟨d', bl, er⟩ := r
        simp only at HOf hst hB3
        clear hx hxm hkm h90 HSec
        have hE : eqF (bkF bl) (bkF bl) 64 = true := eqF_same _ _
        go_wp2_with (first | (go_at_call 14; (with_reducible refine (HOf.out _ (by (try show Ex _ _); repeat (first | (with_reducible exact ex_refl _) | (with_reducible assumption) | (with_reducible refine ex_drewL ?_) | (with_reducible refine ex_appR ?_ _) | (with_reducible refine ex_wx ?_ _) | (with_reducible refine ex_drew ?_) | (with_reducible refine ex_alloc ?_ _)))).mono ?_); rintro e w6 ⟨rfl, h6, g6⟩; have r9 := (g6 wr.heap.size (Nat.le_refl _) (by simp [go_sem])).trans (heap_alloc_new wr _); have n9 := (block_cells (n := 4) r9 rfl).1; have z9 := (Array.getElem?_eq_some_iff.1 r9).1; clear g6 r9; obtain ⟨hv6, qv6, hb6, q1, q2, HSa⟩ := h6.said hok.out (by omega) (by omega) (hkp.out.ex h6.ex) hab.out; rw [hr.out] at HSa; unfold rowD at hb6 HSa; unfold AV at HSa; have n6 := (block_cells (n := 6) hb6 rfl).1; have z6 := (Array.getElem?_eq_some_iff.1 hb6).1; replace HSa := Lib.hid HSa; replace hb6 := Lib.hid hb6; replace h6 := Lib.hid h6) | (go_at_call 15; (with_reducible refine (HSa.out _ (by (try show Ex _ _); repeat (first | (with_reducible exact ex_refl _) | (with_reducible assumption) | (with_reducible refine ex_drewL ?_) | (with_reducible refine ex_appR ?_ _) | (with_reducible refine ex_wx ?_ _) | (with_reducible refine ex_drew ?_) | (with_reducible refine ex_alloc ?_ _)))).mono ?_); rintro e w8 ⟨hv8, qv8, rfl, p1, p2, k8, hS1, hS2⟩; have B10 := ex_block (ex_trans (ex_alloc (ex_refl (w6.alloc (.cells (rowB 64 (bkF bl)) 39))) (.cells (rowB 64 fun _ => 0) 39)) k8) (heap_alloc_new w6 _); have B12 := ex_block k8 (heap_alloc_new (w6.alloc (.cells (rowB 64 (bkF bl)) 39)) (.cells (rowB 64 fun _ => 0) 39)); rw [World.size_alloc] at B12; have B7 := ex_block (ex_trans (ex_alloc (ex_alloc (ex_refl w6) (.cells (rowB 64 (bkF bl)) 39)) (.cells (rowB 64 fun _ => 0) 39)) k8) hb6.out; have hbl : w.heap.size ≤ b := (by obtain ⟨_, _, _, _, _, _, _, e, _⟩ := h6.out.out; exact e); obtain ⟨n7, f7⟩ := block_cells (n := 6) B7 rfl; have z7 := (Array.getElem?_eq_some_iff.1 B7).1; obtain ⟨n12, f12⟩ := block_cells (n := 64) B12 (by simp); have z12 := (Array.getElem?_eq_some_iff.1 B12).1; obtain ⟨x4, x5, xk⟩ := res_end (w := w) (c4 := #[hv8, qv8, I d'.ar, I d'.dm, .bool d'.dark, I (d'.ops : Nat)]) (c5 := rowB 64 (bkF bl)) B7 B12 (by omega) hbl (by omega) (ex_trans h6.out.ex (ex_trans (ex_alloc (ex_alloc (ex_refl w6) (.cells (rowB 64 (bkF bl)) 39)) (.cells (rowB 64 fun _ => 0) 39)) k8)) rfl (by simp); have hSV := hS2 (w6.heap.size + 1) (rowB 64 (bkF bl)).toList (by omega) (by simp [go_sem]); obtain ⟨hvt, qvt, et, _, _, HTl⟩ := hSV.tells; obtain ⟨rfl, rfl⟩ := row_det x4 et; have y7 : cellsN ((w8.setCells b 0 [hv8, qv8, I d'.ar, I d'.dm, .bool d'.dark, I (d'.ops : Nat)]).setCells (w6.heap.size + 1) 0 (rowB 64 (bkF bl)).toList) b 0 6 = some #[hv8, qv8, I d'.ar, I d'.dm, .bool d'.dark, I (d'.ops : Nat)] := (block_cells (n := 6) x4 rfl).1; have y12 : cellsN ((w8.setCells b 0 [hv8, qv8, I d'.ar, I d'.dm, .bool d'.dark, I (d'.ops : Nat)]).setCells (w6.heap.size + 1) 0 (rowB 64 (bkF bl)).toList) (w6.heap.size + 1) 0 64 = some (rowB 64 (bkF bl)) := (block_cells (n := 64) x5 (by simp)).1; have x10 : ((w8.setCells b 0 [hv8, qv8, I d'.ar, I d'.dm, .bool d'.dark, I (d'.ops : Nat)]).setCells (w6.heap.size + 1) 0 (rowB 64 (bkF bl)).toList).heap[w6.heap.size]? = some (.cells (rowB 64 (bkF bl)) 39 (0, 0)) := (setCells_heap _ _ _ _ _ (by omega)).trans ((setCells_heap _ _ _ _ _ (by omega)).trans B10); have y10 := (block_cells (n := 64) x10 (by simp)).1; have u7 := (Array.getElem?_eq_some_iff.1 x4).1; have u12 := (Array.getElem?_eq_some_iff.1 x5).1; have u10 := (Array.getElem?_eq_some_iff.1 x10).1; unfold rowD at HTl; replace HTl := Lib.hid HTl; replace hSV := Lib.hid hSV; clear hS1 hS2 k8 B10 B12 B7 x4 x5 x10 xk et hbl) | (go_at_call 13; (with_reducible refine (HTl.out _ (by (try show Ex _ _); repeat (first | (with_reducible exact ex_refl _) | (with_reducible assumption) | (with_reducible refine ex_drewL ?_) | (with_reducible refine ex_appR ?_ _) | (with_reducible refine ex_wx ?_ _) | (with_reducible refine ex_drew ?_) | (with_reducible refine ex_alloc ?_ _)))).mono ?_); rintro e w9 ⟨rfl, X9, rfl⟩))
        refine ⟨⟨k + 1, by omega, hk91.out, by go_num, Lib.hid ?_⟩, by simp [intOf]; omega⟩
        rw [hst.out]
        exact hSV.out.grow (ex_wx (ex_refl _) _)
    · have hkn : k = n := by omega
      subst k
      obtain ⟨hvS, qvS, hbS, oS1, oS2, HSe⟩ := hSt.out.sectors (by have := hB.ops; omega)
      generalize asksD (newD s) (l.take n) = d at *
      unfold rowD at hbS HSe
      have nS := (block_cells (n := 6) hbS rfl).1
      have zS := (Array.getElem?_eq_some_iff.1 hbS).1
      replace HSe := Lib.hid HSe
      replace hB := Lib.hid hB
      clear hbS hlt
      go_wp2_with (go_at_call 16; (with_reducible refine (HSe.out _ (by (try show Ex _ _); repeat (first | (with_reducible exact ex_refl _) | (with_reducible assumption) | (with_reducible refine ex_drewL ?_) | (with_reducible refine ex_appR ?_ _) | (with_reducible refine ex_wx ?_ _) | (with_reducible refine ex_drew ?_) | (with_reducible refine ex_alloc ?_ _)))).mono ?_); rintro e w9 ⟨rfl, k9⟩)
      go_ret
      exact post_mk' rfl k9
end Go.Proofs.Ytdohohafdplkiaa
