import Derived.Test.YtcdocklbpfdmeaaDoorMGwE
import Derived.Test.YtcdocklbpfdmeaaDoorMGwH
import Derived.Test.YtcdocklbpfdmeaaDoorMGwI
import Derived.Test.YtcdocklbpfdmeaaDoorMDoU
import Derived.Test.YtcdocklbpfdmeaaDoorMForkJ
import Derived.Laws.Tables
import Derived.Test.YtcdocklbpfdmeaaDoorMGlob

/- Collide's document: growths: Extends, Extend. -/
set_option linter.unusedSimpArgs false
set_option linter.unusedVariables false
set_option linter.unnecessarySimpa false
set_option maxRecDepth 20000
namespace Go.Proofs.YtcdocklbpfdmeaaDoor
open Go.RowKit
set_option maxHeartbeats 1000000 in
theorem dgrow_any {A : World} (W : Nat) (hW : W ≤ 256) {p : Nat} (hp : A.heap.size ≤ p) (N : Nat) : ∀ (l : List (List UInt8)) (la : Option Addr) (lc : Nat) (m : Nat) (old : Dg) (known : Bool) (proof : List Dg) (pa : Option Addr) (pc : Nat) (c : Cl) (w : World),
    l.length = N → 1 ≤ m → m ≤ N → N ≤ 1024 → N ≤ lc → lc ≤ maxLen → SlLs A la l → ShortL l → proof.length ≤ pc → pc ≤ maxLen → SlD A pa proof → Ex A w → Cd w p c →
    Calls Tryd.prog 74 #[I W, .slice la N lc, I m, .agg (rowB 32 (dF old)), .bool known, .slice pa proof.length pc, .pointer (some ⟨p, 0, none⟩)] w (PostDG p w (growC (sumW W) l m old known proof c)) := by
  induction N using Nat.strongRecOn with
  | ind N ih =>
    intro l la lc m old known proof pa pc c w hl hm1 hm hN hlc hlm hls hsh hpc hpm hpath kA hk
    by_cases hmN : m = N
    · subst hmN
      rw [growC_all hl.symm]
      exact dgrow_all (A := A) W m la lc old known proof pa pc c w hN hlc hlm hpc hpm (hpath.ex kA) hk
    · have h2 : 2 ≤ N := by omega
      have hk1 := split_lt (n := N) h2
      have hk2 := split_pos N
      rcases snoc_cases proof with rfl | ⟨r, y, rfl⟩
      · rw [growC_nil hm1 (by omega)]
        have HK := Lib.hid hk
        have e0 : ((m : Int) == N) = false := beq_eq_false_iff_ne.2 (by omega)
        clear ih hk hls hpath
        go_enter Tryd.func74, Tryd.ntmps74
        go_wp2
        exact ret_rowrowV (cs := rowB 32 fun _ => 0) (cs2 := rowB 32 fun _ => 0) Tryd.results74 Tryd.underlying46 rfl info_id rfl (by simp [go_sem]) rfl (by simp [go_sem]) rfl rfl ⟨zeroD, zeroD, c, by rw [row_zeroC]; rfl, Frm.ex (by (try show Ex _ _); repeat (first | (with_reducible exact ex_refl _) | (with_reducible assumption) | (with_reducible refine ex_drewL ?_) | (with_reducible refine ex_appR ?_ _) | (with_reducible refine ex_wx ?_ _) | (with_reducible refine ex_drew ?_) | (with_reducible refine ex_alloc ?_ _))), HK.out.ex (by (try show Ex _ _); repeat (first | (with_reducible exact ex_refl _) | (with_reducible assumption) | (with_reducible refine ex_drewL ?_) | (with_reducible refine ex_appR ?_ _) | (with_reducible refine ex_wx ?_ _) | (with_reducible refine ex_drew ?_) | (with_reducible refine ex_alloc ?_ _))), fun u hu => by cases hu⟩
      · have hrl : (r ++ [y]).length = r.length + 1 := by simp
        rw [hrl] at hpc ⊢
        obtain ⟨g, off, rfl, hg, hcell⟩ := hls.pos (by omega)
        clear hcell
        obtain ⟨g2, off2, rfl, hg2, hcell2⟩ := hpath.pos (by simp)
        have hpl := (hpath.ex kA).at (i := r.length) (d := y) (by simp)
        clear hcell2
        have HSp := Lib.hid (fun w => refsplit_at N w h2 hN)
        have HT : Hid (∀ w', Ex w w' → Calls Tryd.prog 44 #[I W, .slice (some ⟨g, off, none⟩) (splitN N) lc] w' (Post w' (.agg (rowB 32 (dF (rootC (sumW W) (l.take (splitN N)))))))) := Lib.hid fun w' k => by
          have := refrootN_any W hW (splitN N) (l.take (splitN N)) (some ⟨g, off, none⟩) lc w' (by rw [List.length_take]; omega) (by omega) (by omega) hlm ((hls.take _).ex (ex_trans kA k)) (fun b hb => hsh b (List.mem_of_mem_take hb))
          rwa [← rootC_top] at this
        have HD : Hid (∀ w', Ex w w' → Calls Tryd.prog 44 #[I W, .slice (some ⟨g, off + splitN N, none⟩) (N - splitN N) (lc - splitN N)] w' (Post w' (.agg (rowB 32 (dF (rootC (sumW W) (l.drop (splitN N)))))))) := Lib.hid fun w' k => by
          have := refrootN_any W hW (N - splitN N) (l.drop (splitN N)) (some ⟨g, off + splitN N, none⟩) (lc - splitN N) w' (by rw [List.length_drop]; omega) (by omega) (by omega) (by omega) ((hls.drop _).ex (ex_trans kA k)) (fun b hb => hsh b (List.mem_of_mem_drop hb))
          rwa [← rootC_top] at this
        by_cases hmk : m ≤ splitN N
        · have hcl := growC_lo (S := sumW W) (l := l) hm1 (by omega) (m := m) (by rw [hl]; exact hmk) old known r y c
          rw [hl] at hcl
          rw [hcl]
          exact dgrow_lo W hW hp hN hm1 (by omega) hk1 hk2 hmk hlc hlm (by omega) hpm kA hk hpl.1 hpl.2 HSp HT HD
            (Lib.hid fun w' k => ih _ hk1 _ _ lc m old known r (some ⟨g2, off2, none⟩) pc c w' (by rw [List.length_take]; omega) hm1 hmk (by omega) (by omega) hlm (hls.take _) (fun b hb => hsh b (List.mem_of_mem_take hb)) (by omega) hpm (by have := hpath.take r.length; simpa using this) (ex_trans kA k) (hk.ex k))
        · have hcl := growC_hi (S := sumW W) (l := l) hm1 (by omega) (m := m) (by rw [hl]; exact hmk) old known r y c
          rw [hl] at hcl
          rw [hcl]
          exact dgrow_hi (known := known) W hW hp hN hm1 (by omega) hk1 hk2 hmk hlc hlm (by omega) hpm kA hk hpl.1 hpl.2 HSp HT HD
            (Lib.hid fun w' k => by
              have := ih (N - splitN N) (by omega) (l.drop (splitN N)) (some ⟨g, off + splitN N, none⟩) (lc - splitN N) (m - splitN N) old false r (some ⟨g2, off2, none⟩) pc c w' (by rw [List.length_drop]; omega) (by omega) (by omega) (by omega) (by omega) (by omega) (hls.drop _) (fun b hb => hsh b (List.mem_of_mem_drop hb)) (by omega) hpm (by have := hpath.take r.length; simpa using this) (ex_trans kA k) (hk.ex k)
              rwa [show ((m - splitN N : Nat) : Int) = (m : Int) - splitN N by omega] at this)
set_option maxHeartbeats 1000000 in
theorem dextends_in (W : Nat) (hW : W ≤ 256) (l : List (List UInt8)) (la : Option Addr) (lc : Nat) (m : Nat) (old : Dg) (path : List Dg) (pa : Option Addr) (pc : Nat) (w : World)
    (hN : l.length ≤ 1024) (hm1 : 1 ≤ m) (hm : m ≤ l.length) (hlc : l.length ≤ lc) (hlm : lc ≤ maxLen) (hls : SlLs w la l) (hsh : ShortL l) (hpc : path.length ≤ pc) (hpm : pc ≤ maxLen) (hpath : SlD w pa path) :
    Calls Tryd.prog 38 #[I W, .slice la l.length lc, .agg (growR m old (.slice pa path.length pc))] w (PostBR w (extC W l m old path)) := by
  have HWd : Hid (∀ w', Calls Tryd.prog 25 #[I W] w' (Post w' (.bool true))) := Lib.hid fun w' => by
    have := refwide_any W w'
    rwa [show wideB W = true from decide_eq_true (by omega)] at this
  have HC : Hid (∀ w' p, Ex w w' → w.heap.size ≤ p → Cd w' p none → Calls Tryd.prog 74 #[I W, .slice la l.length lc, I m, .agg (rowB 32 (dF old)), .bool true, .slice pa path.length pc, .pointer (some ⟨p, 0, none⟩)] w' (PostDG p w' (growC (sumW W) l m old true path none))) :=
    Lib.hid fun w' p k hp hk => dgrow_any W hW hp l.length l la lc m old true path pa pc none w' rfl hm1 hm hN hlc hlm hls hsh hpc hpm hpath k hk
  have HR : Hid (∀ w', Ex w w' → Calls Tryd.prog 44 #[I W, .slice la l.length lc] w' (Post w' (.agg (rowB 32 (dF (rootC (sumW W) l)))))) := Lib.hid fun w' k => by
    have := refrootN_any W hW l.length l la lc w' rfl hN hlc hlm (hls.ex k) hsh
    rwa [← rootC_top] at this
  have hr : extC W l m old path = outG old (rootC (sumW W) l) (growC (sumW W) l m old true path none) := by
    unfold extC
    rw [if_pos ⟨hN, by omega, by omega, by omega, by omega⟩, Int.toNat_natCast, Int.toNat_natCast]
  rw [hr]
  clear hr
  have t1 : decide ((1024 : Int) < l.length) = false := decide_eq_false (by omega)
  have t2 : decide ((m : Int) < 1) = false := decide_eq_false (by omega)
  have t3 : decide ((l.length : Int) < m) = false := decide_eq_false (by omega)
  have t4 : decide (l.length < m) = false := decide_eq_false (by omega)
  have t5 : decide (1024 < l.length) = false := decide_eq_false (by omega)
  generalize growC (sumW W) l m old true path none = o at HC ⊢
  generalize rootC (sumW W) l = R at HR ⊢
  clear hls hpath
  generalize l.length = n at *
  generalize path.length = pn at *
  have HB2 : Hid (∀ w2, Ex (w.alloc (.cells (growR m old (.slice pa pn pc)) 79)) w2 → w2.cell? ⟨w.heap.size, 0, none⟩ = some (I m) ∧ cellsN w2 w.heap.size 1 32 = some (rowB 32 (dF old)) ∧ w2.cell? ⟨w.heap.size, 33, none⟩ = some (.slice pa pn pc) ∧ w.heap.size < w2.heap.size) := Lib.hid fun w2 k => growR_block (ex_block k (heap_alloc_new w _))
  cases o with
  | none =>
    have hb : outG old R none = (false, none) := rfl
    rw [hb]
    clear hb
    have HC2 : Hid (∀ w' p, Ex w w' → w.heap.size ≤ p → Cd w' p none → Calls Tryd.prog 74 #[I W, .slice la n lc, I m, .agg (rowB 32 (dF old)), .bool true, .slice pa pn pc, .pointer (some ⟨p, 0, none⟩)] w' (fun e w2 => ∃ xa xb c', e = .returned (.tuple #[.agg (rowB 32 (dF xa)), .agg (rowB 32 (dF xb)), .bool false]) ∧ FrP p w' w2 ∧ Cd w2 p c')) := Lib.hid fun w' p k1 k2 k3 => (HC.out w' p k1 k2 k3).mono fun e w2 ⟨xa, xb, c', h1, h2, h3, h4⟩ => ⟨xa, xb, c', h1, h2, h3⟩
    clear HC
    go_enter Tryd.func38, Tryd.ntmps38
    go_wp2_with (first | (go_at_call 25; (with_reducible refine (HWd.out _).mono ?_); rintro e w2 ⟨rfl, X, rfl⟩) | (go_at_call 74; (with_reducible refine (HC2.out _ _ (by (try show Ex _ _); repeat (first | (with_reducible exact ex_refl _) | (with_reducible assumption) | (with_reducible refine ex_drewL ?_) | (with_reducible refine ex_appR ?_ _) | (with_reducible refine ex_wx ?_ _) | (with_reducible refine ex_drew ?_) | (with_reducible refine ex_alloc ?_ _))) (by omega) (Cd.new' (by simp [go_sem]))).mono ?_); rintro e w2 ⟨xa, xb, c', rfl, F2, K2⟩; have k2 : Ex w w2 := F2.exA (by (try show Ex _ _); repeat (first | (with_reducible exact ex_refl _) | (with_reducible assumption) | (with_reducible refine ex_drewL ?_) | (with_reducible refine ex_appR ?_ _) | (with_reducible refine ex_wx ?_ _) | (with_reducible refine ex_drew ?_) | (with_reducible refine ex_alloc ?_ _))) (by omega); obtain ⟨cv, hcb, hcr⟩ := K2.out; obtain ⟨n2, f2⟩ := block_cellF (o := 0) (v := cv) hcb rfl; have z2 := cell_lt n2; replace F2 := Lib.hid F2; replace hcr := Lib.hid hcr; replace hcb := Lib.hid hcb; replace K2 := Lib.hid K2))
    refine wp_region_seq [(0, true), (1, true), (2, true), (3, true), (4, true), (5, true), (6, true), (7, true), (8, true), (9, true), (10, true), (14, true), (11, false), (12, true), (13, true), (15, true), (16, true)] (by kernel_rfl) (by kernel_rfl) (fun _ _ d _ _ h => by cases d <;> exact h) ?_
    simp only [List.map_cons, List.map_nil, nth]
    repeat (first | ((with_reducible refine wpSeq_look ?_); go_big_quiet_step (fail); (with_reducible refine wpQuiet_nil ?_)) | ((with_reducible refine wpSeq_effF ?_ ?_); (focus rfl); go_simp) | ((with_reducible refine wpSeq_eff ?_ ?_); (focus rfl); (try dsimp only); go_wp2_with (fail); refine mixQ_mk (by (try show Ex _ _); repeat (first | (with_reducible exact ex_refl _) | (with_reducible assumption) | (with_reducible refine ex_drewL ?_) | (with_reducible refine ex_appR ?_ _) | (with_reducible refine ex_wx ?_ _) | (with_reducible refine ex_drew ?_) | (with_reducible refine ex_alloc ?_ _))) ?_))
    refine wpSeq_nil ?_
    go_wp2
    go_ret2
    exact ⟨cv, c', rfl, ex_trans k2 (by (try show Ex _ _); repeat (first | (with_reducible exact ex_refl _) | (with_reducible assumption) | (with_reducible refine ex_drewL ?_) | (with_reducible refine ex_appR ?_ _) | (with_reducible refine ex_wx ?_ _) | (with_reducible refine ex_drew ?_) | (with_reducible refine ex_alloc ?_ _))), hcr.out.ex (by (try show Ex _ _); repeat (first | (with_reducible exact ex_refl _) | (with_reducible assumption) | (with_reducible refine ex_drewL ?_) | (with_reducible refine ex_appR ?_ _) | (with_reducible refine ex_wx ?_ _) | (with_reducible refine ex_drew ?_) | (with_reducible refine ex_alloc ?_ _))), fun h => by cases h⟩
  | some xc =>
    obtain ⟨xa, xb, c1⟩ := xc
    have HC2 : Hid (∀ w' p, Ex w w' → w.heap.size ≤ p → Cd w' p none → Calls Tryd.prog 74 #[I W, .slice la n lc, I m, .agg (rowB 32 (dF old)), .bool true, .slice pa pn pc, .pointer (some ⟨p, 0, none⟩)] w' (fun e w2 => e = .returned (.tuple #[.agg (rowB 32 (dF xa)), .agg (rowB 32 (dF xb)), .bool true]) ∧ FrP p w' w2 ∧ Cd w2 p c1)) := Lib.hid fun w' p k1 k2 k3 => (HC.out w' p k1 k2 k3).mono fun e w2 ⟨xa', xb', c', h1, h2, h3, h4⟩ => by
      have := h4 _ rfl
      cases this
      exact ⟨h1, h2, h3⟩
    have he := eqD xa old
    have he2 := eqD xb R
    have hb : outG old R (some (xa, xb, c1)) = (decide (xa = old) && decide (xb = R), c1) := rfl
    rw [hb]
    generalize decide (xa = old) = b1 at he ⊢
    generalize decide (xb = R) = b2 at he2 ⊢
    clear hb HC
    have hold : Hid (∀ (w' : World) X (p : Nat), p = w.heap.size + 1 + X.blocks.length → FrP p ((wx (w.alloc (.cells (growR m old (.slice pa pn pc)) 79)) X).alloc (.cells #[.slice none 0 0] 57)) w' → cellsN w' w.heap.size 1 32 = some (rowB 32 (dF old)) ∧ w.heap.size < w'.heap.size) := Lib.hid fun w' X p hp F => by
      have hb0 : ((wx (w.alloc (.cells (growR m old (.slice pa pn pc)) 79)) X).alloc (.cells #[.slice none 0 0] 57)).heap[w.heap.size]? = some (.cells (growR m old (.slice pa pn pc)) 79 (0, 0)) := ex_block (w := w.alloc (.cells (growR m old (.slice pa pn pc)) 79)) (by (try show Ex _ _); repeat (first | (with_reducible exact ex_refl _) | (with_reducible assumption) | (with_reducible refine ex_drewL ?_) | (with_reducible refine ex_appR ?_ _) | (with_reducible refine ex_wx ?_ _) | (with_reducible refine ex_drew ?_) | (with_reducible refine ex_alloc ?_ _))) (heap_alloc_new w _)
      have h := growR_block (row_frm hb0 F (by omega))
      exact ⟨h.2.1, h.2.2.2⟩
    cases b1 with
    | false =>
      rw [Bool.false_and]
      go_enter Tryd.func38, Tryd.ntmps38
      go_wp2_with (first | (go_at_call 25; (with_reducible refine (HWd.out _).mono ?_); rintro e w2 ⟨rfl, X, rfl⟩) | (go_at_call 74; (with_reducible refine (HC2.out _ _ (by (try show Ex _ _); repeat (first | (with_reducible exact ex_refl _) | (with_reducible assumption) | (with_reducible refine ex_drewL ?_) | (with_reducible refine ex_appR ?_ _) | (with_reducible refine ex_wx ?_ _) | (with_reducible refine ex_drew ?_) | (with_reducible refine ex_alloc ?_ _))) (by omega) (Cd.new' (by simp [go_sem]))).mono ?_); rintro e w2 ⟨rfl, F2, K2⟩; have k2 : Ex w w2 := F2.exA (by (try show Ex _ _); repeat (first | (with_reducible exact ex_refl _) | (with_reducible assumption) | (with_reducible refine ex_drewL ?_) | (with_reducible refine ex_appR ?_ _) | (with_reducible refine ex_wx ?_ _) | (with_reducible refine ex_drew ?_) | (with_reducible refine ex_alloc ?_ _))) (by omega); obtain ⟨d1, zd⟩ := hold.out w2 X _ rfl F2; obtain ⟨cv, hcb, hcr⟩ := K2.out; obtain ⟨n2, f2⟩ := block_cellF (o := 0) (v := cv) hcb rfl; have z2 := cell_lt n2; replace F2 := Lib.hid F2; replace hcr := Lib.hid hcr; replace hcb := Lib.hid hcb; replace K2 := Lib.hid K2))
      refine wp_region_seq [(0, true), (1, true), (2, true), (3, true), (4, true), (5, true), (6, true), (7, true), (8, true), (9, true), (10, true), (14, true), (11, false), (12, true), (13, true), (15, true), (16, true)] (by kernel_rfl) (by kernel_rfl) (fun _ _ d _ _ h => by cases d <;> exact h) ?_
      simp only [List.map_cons, List.map_nil, nth]
      repeat (first | ((with_reducible refine wpSeq_look ?_); go_big_quiet_step (fail); (with_reducible refine wpQuiet_nil ?_)) | ((with_reducible refine wpSeq_effF ?_ ?_); (focus rfl); go_simp) | ((with_reducible refine wpSeq_eff ?_ ?_); (focus rfl); (try dsimp only); go_wp2_with (fail); refine mixQ_mk (by (try show Ex _ _); repeat (first | (with_reducible exact ex_refl _) | (with_reducible assumption) | (with_reducible refine ex_drewL ?_) | (with_reducible refine ex_appR ?_ _) | (with_reducible refine ex_wx ?_ _) | (with_reducible refine ex_drew ?_) | (with_reducible refine ex_alloc ?_ _))) ?_))
      refine wpSeq_nil ?_
      go_wp2
      go_ret2
      exact ⟨cv, c1, rfl, ex_trans k2 (by (try show Ex _ _); repeat (first | (with_reducible exact ex_refl _) | (with_reducible assumption) | (with_reducible refine ex_drewL ?_) | (with_reducible refine ex_appR ?_ _) | (with_reducible refine ex_wx ?_ _) | (with_reducible refine ex_drew ?_) | (with_reducible refine ex_alloc ?_ _))), hcr.out.ex (by (try show Ex _ _); repeat (first | (with_reducible exact ex_refl _) | (with_reducible assumption) | (with_reducible refine ex_drewL ?_) | (with_reducible refine ex_appR ?_ _) | (with_reducible refine ex_wx ?_ _) | (with_reducible refine ex_drew ?_) | (with_reducible refine ex_alloc ?_ _))), fun h => by cases h⟩
    | true =>
      rw [Bool.true_and]
      go_enter Tryd.func38, Tryd.ntmps38
      go_wp2_with (first | (go_at_call 25; (with_reducible refine (HWd.out _).mono ?_); rintro e w2 ⟨rfl, X, rfl⟩) | (go_at_call 74; (with_reducible refine (HC2.out _ _ (by (try show Ex _ _); repeat (first | (with_reducible exact ex_refl _) | (with_reducible assumption) | (with_reducible refine ex_drewL ?_) | (with_reducible refine ex_appR ?_ _) | (with_reducible refine ex_wx ?_ _) | (with_reducible refine ex_drew ?_) | (with_reducible refine ex_alloc ?_ _))) (by omega) (Cd.new' (by simp [go_sem]))).mono ?_); rintro e w2 ⟨rfl, F2, K2⟩; have k2 : Ex w w2 := F2.exA (by (try show Ex _ _); repeat (first | (with_reducible exact ex_refl _) | (with_reducible assumption) | (with_reducible refine ex_drewL ?_) | (with_reducible refine ex_appR ?_ _) | (with_reducible refine ex_wx ?_ _) | (with_reducible refine ex_drew ?_) | (with_reducible refine ex_alloc ?_ _))) (by omega); obtain ⟨d1, zd⟩ := hold.out w2 X _ rfl F2; obtain ⟨cv, hcb, hcr⟩ := K2.out; obtain ⟨n2, f2⟩ := block_cellF (o := 0) (v := cv) hcb rfl; have z2 := cell_lt n2; replace F2 := Lib.hid F2; replace hcr := Lib.hid hcr; replace hcb := Lib.hid hcb; replace K2 := Lib.hid K2))
      refine wp_region_seq [(0, true), (1, true), (2, true), (3, true), (4, true), (5, true), (6, true), (7, true), (8, true), (9, true), (10, true), (14, true), (11, false), (12, true), (13, true), (15, true), (16, true)] (by kernel_rfl) (by kernel_rfl) (fun _ _ d _ _ h => by cases d <;> exact h) ?_
      simp only [List.map_cons, List.map_nil, nth]
      repeat (first | ((with_reducible refine wpSeq_look ?_); go_big_quiet_step (fail); (with_reducible refine wpQuiet_nil ?_)) | ((with_reducible refine wpSeq_effF ?_ ?_); (focus rfl); go_simp) | ((with_reducible refine wpSeq_eff ?_ ?_); (focus rfl); (try dsimp only); go_wp2_with ((go_at_call 44; (with_reducible refine (HR.out _ (ex_trans k2 (by (try show Ex _ _); repeat (first | (with_reducible exact ex_refl _) | (with_reducible assumption) | (with_reducible refine ex_drewL ?_) | (with_reducible refine ex_appR ?_ _) | (with_reducible refine ex_wx ?_ _) | (with_reducible refine ex_drew ?_) | (with_reducible refine ex_alloc ?_ _))))).mono ?_); rintro e w3 ⟨rfl, X3, rfl⟩)); refine mixQ_mk (by (try show Ex _ _); repeat (first | (with_reducible exact ex_refl _) | (with_reducible assumption) | (with_reducible refine ex_drewL ?_) | (with_reducible refine ex_appR ?_ _) | (with_reducible refine ex_wx ?_ _) | (with_reducible refine ex_drew ?_) | (with_reducible refine ex_alloc ?_ _))) ?_))
      refine wpSeq_nil ?_
      go_wp2
      go_ret2
      exact ⟨cv, c1, rfl, ex_trans k2 (by (try show Ex _ _); repeat (first | (with_reducible exact ex_refl _) | (with_reducible assumption) | (with_reducible refine ex_drewL ?_) | (with_reducible refine ex_appR ?_ _) | (with_reducible refine ex_wx ?_ _) | (with_reducible refine ex_drew ?_) | (with_reducible refine ex_alloc ?_ _))), hcr.out.ex (by (try show Ex _ _); repeat (first | (with_reducible exact ex_refl _) | (with_reducible assumption) | (with_reducible refine ex_drewL ?_) | (with_reducible refine ex_appR ?_ _) | (with_reducible refine ex_wx ?_ _) | (with_reducible refine ex_drew ?_) | (with_reducible refine ex_alloc ?_ _))), fun _ => rfl⟩
set_option maxHeartbeats 1000000 in
theorem dextends_any (W : Int) (l : List (List UInt8)) (la : Option Addr) (lc : Nat) (m : Int) (old : Dg) (path : List Dg) (pa : Option Addr) (pc : Nat) (w : World)
    (hlc : l.length ≤ lc) (hlm : lc ≤ maxLen) (hls : SlLs w la l) (hsh : ShortL l) (hpc : path.length ≤ pc) (hpm : pc ≤ maxLen) (hpath : SlD w pa path) :
    Calls Tryd.prog 38 #[I W, .slice la l.length lc, .agg (growR m old (.slice pa path.length pc))] w (PostBR w (extC W l m old path)) := by
  by_cases hg : l.length ≤ 1024 ∧ 1 ≤ m ∧ m ≤ l.length ∧ 0 ≤ W ∧ W ≤ 256
  · obtain ⟨h1, h2, h3, h4, h5⟩ := hg
    obtain ⟨N, rfl⟩ : ∃ N : Nat, W = N := ⟨W.toNat, by omega⟩
    obtain ⟨q, rfl⟩ : ∃ q : Nat, m = q := ⟨m.toNat, by omega⟩
    exact dextends_in N (by omega) l la lc q old path pa pc w h1 (by omega) (by omega) hlc hlm hls hsh hpc hpm hpath
  · have he : extC W l m old path = (false, none) := by unfold extC; rw [if_neg hg]
    rw [he]
    clear he hls hpath
    have HWd := Lib.hid fun w' => refwide_any W w'
    obtain ⟨wb, hwb⟩ : ∃ wb, wideB W = wb := ⟨_, rfl⟩
    have hg2 : ¬ (l.length ≤ 1024 ∧ 1 ≤ m ∧ m ≤ l.length ∧ wb = true) := by
      rintro ⟨h1, h2, h3, h4⟩
      rw [← hwb] at h4
      exact hg ⟨h1, h2, h3, of_decide_eq_true h4⟩
    rw [hwb] at HWd
    generalize l.length = n at *
    generalize path.length = pn at *
    clear hwb hg hsh
    cases wb with
    | false =>
      have HWd2 : Hid (∀ w', Calls Tryd.prog 25 #[I W] w' (Post w' (.bool false))) := HWd
      go_enter Tryd.func38, Tryd.ntmps38
      go_wp2_with (go_at_call 25; (with_reducible refine (HWd2.out _).mono ?_); rintro e w2 ⟨rfl, X, rfl⟩)
      go_ret2
      exact ⟨_, none, rfl, (by (try show Ex _ _); repeat (first | (with_reducible exact ex_refl _) | (with_reducible assumption) | (with_reducible refine ex_drewL ?_) | (with_reducible refine ex_appR ?_ _) | (with_reducible refine ex_wx ?_ _) | (with_reducible refine ex_drew ?_) | (with_reducible refine ex_alloc ?_ _))), rfl, fun _ => rfl⟩
    | true =>
      have HWd2 : Hid (∀ w', Calls Tryd.prog 25 #[I W] w' (Post w' (.bool true))) := HWd
      by_cases h1 : n ≤ 1024
      · have t1 : decide ((1024 : Int) < n) = false := decide_eq_false (by omega)
        have t11 : decide (1024 < n) = false := decide_eq_false (by omega)
        by_cases h2 : 1 ≤ m
        · have t2 : decide (m < 1) = false := decide_eq_false (by omega)
          have t3 : decide ((n : Int) < m) = true := decide_eq_true (by have := hg2; simp only [and_true] at this; omega)
          clear hg2
          go_enter Tryd.func38, Tryd.ntmps38
          go_wp2_with (go_at_call 25; (with_reducible refine (HWd2.out _).mono ?_); rintro e w2 ⟨rfl, X, rfl⟩)
          go_ret2
          exact ⟨_, none, rfl, (by (try show Ex _ _); repeat (first | (with_reducible exact ex_refl _) | (with_reducible assumption) | (with_reducible refine ex_drewL ?_) | (with_reducible refine ex_appR ?_ _) | (with_reducible refine ex_wx ?_ _) | (with_reducible refine ex_drew ?_) | (with_reducible refine ex_alloc ?_ _))), rfl, fun _ => rfl⟩
        · have t2 : decide (m < 1) = true := decide_eq_true (by omega)
          clear hg2
          go_enter Tryd.func38, Tryd.ntmps38
          go_wp2_with (go_at_call 25; (with_reducible refine (HWd2.out _).mono ?_); rintro e w2 ⟨rfl, X, rfl⟩)
          go_ret2
          exact ⟨_, none, rfl, (by (try show Ex _ _); repeat (first | (with_reducible exact ex_refl _) | (with_reducible assumption) | (with_reducible refine ex_drewL ?_) | (with_reducible refine ex_appR ?_ _) | (with_reducible refine ex_wx ?_ _) | (with_reducible refine ex_drew ?_) | (with_reducible refine ex_alloc ?_ _))), rfl, fun _ => rfl⟩
      · have t1 : decide ((1024 : Int) < n) = true := decide_eq_true (by omega)
        have t11 : decide (1024 < n) = true := decide_eq_true (by omega)
        clear hg2
        go_enter Tryd.func38, Tryd.ntmps38
        go_wp2_with (go_at_call 25; (with_reducible refine (HWd2.out _).mono ?_); rintro e w2 ⟨rfl, X, rfl⟩)
        go_ret2
        exact ⟨_, none, rfl, (by (try show Ex _ _); repeat (first | (with_reducible exact ex_refl _) | (with_reducible assumption) | (with_reducible refine ex_drewL ?_) | (with_reducible refine ex_appR ?_ _) | (with_reducible refine ex_wx ?_ _) | (with_reducible refine ex_drew ?_) | (with_reducible refine ex_alloc ?_ _))), rfl, fun _ => rfl⟩
end Go.Proofs.YtcdocklbpfdmeaaDoor

/- Collide's document: growths: Extend. -/
set_option linter.unusedSimpArgs false
set_option linter.unusedVariables false
set_option linter.unnecessarySimpa false
set_option maxRecDepth 20000
namespace Go.Proofs.YtcdocklbpfdmeaaDoor
open Go.RowKit
theorem extend_facts {w w2 : World} {m : Int} {old : Dg} {v : Value} (k : Ex ((w.alloc (.cells (growR m old v) 79)).alloc (.cells #[.slice none 0 0, .slice none 0 0] 37)) w2) :
    w2.cell? ⟨w.heap.size, 0, none⟩ = some (I m) ∧ cellsN w2 w.heap.size 1 32 = some (rowB 32 (dF old)) ∧ w.heap.size < w2.heap.size ∧ cellsN w2 (w.heap.size + 1) 0 2 = some #[.slice none 0 0, .slice none 0 0] ∧ frozenN w2 (w.heap.size + 1) 0 2 = false ∧ w.heap.size + 1 < w2.heap.size ∧
      ∀ sa sb, cellsN (w2.setCells (w.heap.size + 1) 0 [sa, sb]) (w.heap.size + 1) 0 2 = some #[sa, sb] ∧ NoU w2 (fun b => b = w.heap.size + 1) := by
  have b0 := ex_block (ex_trans (ex_alloc (ex_refl _) _) k) (heap_alloc_new w (.cells (growR m old v) 79))
  have b1 := ex_block k (heap_alloc_new (w.alloc (.cells (growR m old v) 79)) _)
  rw [World.size_alloc] at b1
  have c := block_cellsF (n := 2) b1 rfl
  obtain ⟨e1, e2, e3, e4⟩ := growR_block b0
  refine ⟨e1, e2, e4, c.1, c.2.1, c.2.2, fun sa sb => ?_⟩
  have h6 := setCells_block (w.heap.size + 1) 37 (0, 0) [sa, sb] 0 w2 _ b1
  exact ⟨(block_cellsF (n := 2) h6 rfl).1, nou_type b1 (by decide)⟩
set_option maxHeartbeats 1000000 in
theorem dextend_any (W : Int) (l : List (List UInt8)) (la : Option Addr) (lc : Nat) (m : Int) (old : Dg) (path : List Dg) (pa : Option Addr) (pc : Nat) (w : World)
    (hlc : l.length ≤ lc) (hlm : lc ≤ maxLen) (hls : SlLs w la l) (hsh : ShortL l) (hpc : path.length ≤ pc) (hpm : pc ≤ maxLen) (hpath : SlD w pa path) :
    Calls Tryd.prog 40 #[I W, .slice la l.length lc, .agg (growR m old (.slice pa path.length pc))] w (PostClT w (extT W l m old path)) := by
  have HI : Hid (∀ w', Ex w w' → Calls Tryd.prog 38 #[I W, .slice la l.length lc, .agg (growR m old (.slice pa path.length pc))] w' (PostBR w' (extC W l m old path))) :=
    Lib.hid fun w' k => dextends_any W l la lc m old path pa pc w' hlc hlm (hls.ex k) hsh hpc hpm (hpath.ex k)
  have hit := ext_true (W := W) (l := l) (m := m) (old := old) (proof := path)
  unfold extT
  generalize extC W l m old path = r at HI hit ⊢
  obtain ⟨r, c⟩ := r
  simp only at hit ⊢
  cases r with
  | false =>
    rw [Bool.false_and]
    have e0 : tellC false c = none := rfl
    rw [e0]
    clear hit hls hpath e0
    have HI3 : Hid (∀ w', Ex w w' → Calls Tryd.prog 38 #[I W, .slice la l.length lc, .agg (growR m old (.slice pa path.length pc))] w' (PostBR w' (false, c))) := HI
    go_enter Tryd.func40, Tryd.ntmps40
    go_wp2_with (go_at_call 38; (with_reducible refine (HI3.out _ (by (try show Ex _ _); repeat (first | (with_reducible exact ex_refl _) | (with_reducible assumption) | (with_reducible refine ex_drewL ?_) | (with_reducible refine ex_appR ?_ _) | (with_reducible refine ex_wx ?_ _) | (with_reducible refine ex_drew ?_) | (with_reducible refine ex_alloc ?_ _)))).mono ?_); rintro e w2 ⟨cv, c', rfl, ⟨X, rfl⟩, hc2, _⟩; dsimp only; replace hc2 := Lib.hid hc2)
    refine wp_region_seq [(0, true), (1, true), (2, true), (3, true), (4, true), (5, true), (6, true), (7, true), (8, true), (9, true), (10, false), (11, true), (12, true), (13, true), (14, true), (15, true), (16, true), (17, true)] (by kernel_rfl) (by kernel_rfl) (fun _ _ d _ _ h => by cases d <;> exact h) ?_
    simp only [List.map_cons, List.map_nil, nth]
    repeat (first | ((with_reducible refine wpSeq_look ?_); go_big_quiet_step (fail); (with_reducible refine wpQuiet_nil ?_)) | ((with_reducible refine wpSeq_effF ?_ ?_); (focus rfl); go_simp) | ((with_reducible refine wpSeq_eff ?_ ?_); (focus rfl); (try dsimp only); go_wp2_with (fail); refine mixQ_mk (by (try show Ex _ _); repeat (first | (with_reducible exact ex_refl _) | (with_reducible assumption) | (with_reducible refine ex_drewL ?_) | (with_reducible refine ex_appR ?_ _) | (with_reducible refine ex_wx ?_ _) | (with_reducible refine ex_drew ?_) | (with_reducible refine ex_alloc ?_ _))) ?_))
    refine wpSeq_nil ?_
    go_wp2
    exact ret_rowV (cs := #[.slice none 0 0, .slice none 0 0]) Tryd.results40 Tryd.underlying37 rfl info_clash rfl (by simp [go_sem]) rfl rfl (post_zero (by (try show Ex _ _); repeat (first | (with_reducible exact ex_refl _) | (with_reducible assumption) | (with_reducible refine ex_drewL ?_) | (with_reducible refine ex_appR ?_ _) | (with_reducible refine ex_wx ?_ _) | (with_reducible refine ex_drew ?_) | (with_reducible refine ex_alloc ?_ _))))
  | true =>
    obtain ⟨hl1, hi1, hi2, hw1, hw2⟩ := hit rfl
    obtain ⟨q, rfl⟩ : ∃ q : Nat, m = q := ⟨m.toNat, by omega⟩
    obtain ⟨N, rfl⟩ : ∃ N : Nat, W = N := ⟨W.toNat, by omega⟩
    obtain ⟨g, off, rfl, hg, hcell⟩ := hls.pos (by omega)
    rw [Int.toNat_natCast, Int.toNat_natCast]
    have HR : Hid (∀ w', Ex w w' → Calls Tryd.prog 44 #[I N, .slice (some ⟨g, off, none⟩) q lc] w' (Post w' (.agg (rowB 32 (dF (rootC (sumW N) (l.take q))))))) := Lib.hid fun w' k => by
      have := refrootN_any N (by omega) q (l.take q) (some ⟨g, off, none⟩) lc w' (by rw [List.length_take]; omega) (by omega) (by omega) hlm ((hls.take _).ex k) (fun b hb => hsh b (List.mem_of_mem_take hb))
      rwa [← rootC_top] at this
    have HI2 : Hid (∀ w', Ex w w' → Calls Tryd.prog 38 #[I N, .slice (some ⟨g, off, none⟩) l.length lc, .agg (growR q old (.slice pa path.length pc))] w' (fun e w2 => ∃ cv, e = .returned (.tuple #[.bool true, cv]) ∧ Ex w' w2 ∧ ClR w2 cv c)) := Lib.hid fun w' k => (HI.out w' k).mono fun e w2 ⟨cv, c', h1, h2, h3, h4⟩ => ⟨cv, h1, h2, by have := h4 rfl; subst this; exact h3⟩
    rw [Bool.true_and]
    have he := eqD old (rootC (sumW N) (l.take q))
    generalize decide (old = rootC (sumW N) (l.take q)) = bb at he ⊢
    generalize rootC (sumW N) (l.take q) = R at HR he
    clear hit hls hpath hcell HI
    generalize l.length = n at *
    generalize path.length = pn at *
    unfold maxLen at hlm
    have e4 : (q : Int) ≤ lc := by omega
    cases bb with
    | true =>
      have e0 : tellC (!true) c = none := rfl
      rw [e0]
      go_enter Tryd.func40, Tryd.ntmps40
      go_wp2_with (go_at_call 38; (with_reducible refine (HI2.out _ (by (try show Ex _ _); repeat (first | (with_reducible exact ex_refl _) | (with_reducible assumption) | (with_reducible refine ex_drewL ?_) | (with_reducible refine ex_appR ?_ _) | (with_reducible refine ex_wx ?_ _) | (with_reducible refine ex_drew ?_) | (with_reducible refine ex_alloc ?_ _)))).mono ?_); rintro e w2 ⟨cv, rfl, ⟨X, rfl⟩, hc2⟩; dsimp only; replace hc2 := Lib.hid hc2)
      refine wp_region_seq [(0, true), (1, true), (2, true), (3, true), (4, true), (5, true), (6, true), (7, true), (8, true), (9, true), (10, false), (11, true), (12, true), (13, true), (14, true), (15, true), (16, true), (17, true)] (by kernel_rfl) (by kernel_rfl) (fun _ _ d _ _ h => by cases d <;> exact h) ?_
      simp only [List.map_cons, List.map_nil, nth]
      repeat (first | ((with_reducible refine wpSeq_look ?_); go_big_quiet_step (fail); (with_reducible refine wpQuiet_nil ?_)) | ((with_reducible refine wpSeq_effF ?_ ?_); (focus rfl); go_simp) | ((with_reducible refine wpSeq_eff ?_ ?_); (focus rfl); (try dsimp only); go_wp2_with ((go_at_call 44; (with_reducible refine (HR.out _ (by (try show Ex _ _); repeat (first | (with_reducible exact ex_refl _) | (with_reducible assumption) | (with_reducible refine ex_drewL ?_) | (with_reducible refine ex_appR ?_ _) | (with_reducible refine ex_wx ?_ _) | (with_reducible refine ex_drew ?_) | (with_reducible refine ex_alloc ?_ _)))).mono ?_); rintro e w3 ⟨rfl, X2, rfl⟩)); refine mixQ_mk (by (try show Ex _ _); repeat (first | (with_reducible exact ex_refl _) | (with_reducible assumption) | (with_reducible refine ex_drewL ?_) | (with_reducible refine ex_appR ?_ _) | (with_reducible refine ex_wx ?_ _) | (with_reducible refine ex_drew ?_) | (with_reducible refine ex_alloc ?_ _))) ?_))
      refine wpSeq_nil ?_
      go_wp2
      exact ret_rowV (cs := #[.slice none 0 0, .slice none 0 0]) Tryd.results40 Tryd.underlying37 rfl info_clash rfl (by simp [go_sem]) rfl rfl (post_zero (by (try show Ex _ _); repeat (first | (with_reducible exact ex_refl _) | (with_reducible assumption) | (with_reducible refine ex_drewL ?_) | (with_reducible refine ex_appR ?_ _) | (with_reducible refine ex_wx ?_ _) | (with_reducible refine ex_drew ?_) | (with_reducible refine ex_alloc ?_ _))))
    | false =>
      have e0 : tellC (!false) c = c := rfl
      rw [e0]
      cases c with
      | none =>
        have HI3 : Hid (∀ w', Ex w w' → Calls Tryd.prog 38 #[I N, .slice (some ⟨g, off, none⟩) n lc, .agg (growR q old (.slice pa pn pc))] w' (fun e w2 => ∃ cv, e = .returned (.tuple #[.bool true, cv]) ∧ Ex w' w2 ∧ cv = .slice none 0 0)) := HI2
        go_enter Tryd.func40, Tryd.ntmps40
        go_wp2_with (go_at_call 38; (with_reducible refine (HI3.out _ (by (try show Ex _ _); repeat (first | (with_reducible exact ex_refl _) | (with_reducible assumption) | (with_reducible refine ex_drewL ?_) | (with_reducible refine ex_appR ?_ _) | (with_reducible refine ex_wx ?_ _) | (with_reducible refine ex_drew ?_) | (with_reducible refine ex_alloc ?_ _)))).mono ?_); rintro e w2 ⟨cv, rfl, ⟨X, rfl⟩, rfl⟩; dsimp only)
        refine wp_region_seq [(0, true), (1, true), (2, true), (3, true), (4, true), (5, true), (6, true), (7, true), (8, true), (9, true), (10, false), (11, true), (12, true), (13, true), (14, true), (15, true), (16, true), (17, true)] (by kernel_rfl) (by kernel_rfl) (fun _ _ d _ _ h => by cases d <;> exact h) ?_
        simp only [List.map_cons, List.map_nil, nth]
        repeat (first | ((with_reducible refine wpSeq_look ?_); go_big_quiet_step (fail); (with_reducible refine wpQuiet_nil ?_)) | ((with_reducible refine wpSeq_effF ?_ ?_); (focus rfl); go_simp) | ((with_reducible refine wpSeq_eff ?_ ?_); (focus rfl); (try dsimp only); go_wp2_with ((go_at_call 44; (with_reducible refine (HR.out _ (by (try show Ex _ _); repeat (first | (with_reducible exact ex_refl _) | (with_reducible assumption) | (with_reducible refine ex_drewL ?_) | (with_reducible refine ex_appR ?_ _) | (with_reducible refine ex_wx ?_ _) | (with_reducible refine ex_drew ?_) | (with_reducible refine ex_alloc ?_ _)))).mono ?_); rintro e w3 ⟨rfl, X2, rfl⟩)); refine mixQ_mk (by (try show Ex _ _); repeat (first | (with_reducible exact ex_refl _) | (with_reducible assumption) | (with_reducible refine ex_drewL ?_) | (with_reducible refine ex_appR ?_ _) | (with_reducible refine ex_wx ?_ _) | (with_reducible refine ex_drew ?_) | (with_reducible refine ex_alloc ?_ _))) ?_))
        refine wpSeq_nil ?_
        go_wp2
        exact ret_rowV (cs := #[.slice none 0 0, .slice none 0 0]) Tryd.results40 Tryd.underlying37 rfl info_clash rfl (by simp [go_sem]) rfl rfl (post_zero (by (try show Ex _ _); repeat (first | (with_reducible exact ex_refl _) | (with_reducible assumption) | (with_reducible refine ex_drewL ?_) | (with_reducible refine ex_appR ?_ _) | (with_reducible refine ex_wx ?_ _) | (with_reducible refine ex_drew ?_) | (with_reducible refine ex_alloc ?_ _))))
      | some x =>
        have HB := Lib.hid fun w2 => extend_facts (w := w) (w2 := w2) (m := q) (old := old) (v := .slice pa pn pc)
        go_enter Tryd.func40, Tryd.ntmps40
        go_wp2_with (go_at_call 38; (with_reducible refine (HI2.out _ (by (try show Ex _ _); repeat (first | (with_reducible exact ex_refl _) | (with_reducible assumption) | (with_reducible refine ex_drewL ?_) | (with_reducible refine ex_appR ?_ _) | (with_reducible refine ex_wx ?_ _) | (with_reducible refine ex_drew ?_) | (with_reducible refine ex_alloc ?_ _)))).mono ?_); rintro e w2 ⟨cv, rfl, k2, hc2⟩; dsimp only; obtain ⟨gq, cap, sa, sb, rfl, hcap1, hcap2, hz2, hcl, hsa, hsb⟩ := clr_cells hc2; have o1 := ownu_one hsa; have o2 := ownu_one hsb; obtain ⟨f0, f1, fz, f6, f7, f8, f9⟩ := HB.out w2 k2; obtain ⟨g9, u9⟩ := f9 sa sb; replace u9 := Lib.hid u9; clear f9; replace hsa := Lib.hid hsa; replace hsb := Lib.hid hsb; clear hc2; have kw2 : Ex w w2 := ex_trans (by (try show Ex _ _); repeat (first | (with_reducible exact ex_refl _) | (with_reducible assumption) | (with_reducible refine ex_drewL ?_) | (with_reducible refine ex_appR ?_ _) | (with_reducible refine ex_wx ?_ _) | (with_reducible refine ex_drew ?_) | (with_reducible refine ex_alloc ?_ _))) k2; replace k2 := Lib.hid k2)
        refine wp_region_seq [(0, true), (1, true), (2, true), (3, true), (4, true), (5, true), (6, true), (7, true), (8, true), (9, true), (10, false), (11, true), (12, true), (13, true), (14, true), (15, true), (16, true), (17, true)] (by kernel_rfl) (by kernel_rfl) (fun _ _ d _ _ h => by cases d <;> exact h) ?_
        simp only [List.map_cons, List.map_nil, nth]
        repeat (first | ((with_reducible refine wpSeq_look ?_); go_big_quiet_step (fail); (with_reducible refine wpQuiet_nil ?_)) | ((with_reducible refine wpSeq_effF ?_ ?_); (focus rfl); go_simp) | ((with_reducible refine wpSeq_eff ?_ ?_); (focus rfl); (try dsimp only); go_wp2_with ((go_at_call 44; (with_reducible refine (HR.out _ (ex_trans kw2 (by (try show Ex _ _); repeat (first | (with_reducible exact ex_refl _) | (with_reducible assumption) | (with_reducible refine ex_drewL ?_) | (with_reducible refine ex_appR ?_ _) | (with_reducible refine ex_wx ?_ _) | (with_reducible refine ex_drew ?_) | (with_reducible refine ex_alloc ?_ _))))).mono ?_); rintro e w3 ⟨rfl, X2, rfl⟩)); refine mixQ_mk (by (try show Ex _ _); repeat (first | (with_reducible exact ex_refl _) | (with_reducible assumption) | (with_reducible refine ex_drewL ?_) | (with_reducible refine ex_appR ?_ _) | (with_reducible refine ex_wx ?_ _) | (with_reducible refine ex_drew ?_) | (with_reducible refine ex_alloc ?_ _))) ?_))
        refine wpSeq_nil ?_
        go_wp2
        have kF := frm_sets (w := w2) (r := w.heap.size + 1) 0 [sa, sb]
        refine ret_rowV (cs := #[sa, sb]) Tryd.results40 Tryd.underlying37 rfl info_clash rfl (by first | (simp [go_sem, f6, f8]; done) | (simp [go_sem]; rw [if_pos f8]; exact g9)) rfl rfl ⟨_, _, rfl, ex_wx (kF.exA kw2 (Nat.le_succ _)) _, (hsa.out.frm u9.out kF).ex (by (try show Ex _ _); repeat (first | (with_reducible exact ex_refl _) | (with_reducible assumption) | (with_reducible refine ex_drewL ?_) | (with_reducible refine ex_appR ?_ _) | (with_reducible refine ex_wx ?_ _) | (with_reducible refine ex_drew ?_) | (with_reducible refine ex_alloc ?_ _))), (hsb.out.frm u9.out kF).ex (by (try show Ex _ _); repeat (first | (with_reducible exact ex_refl _) | (with_reducible assumption) | (with_reducible refine ex_drewL ?_) | (with_reducible refine ex_appR ?_ _) | (with_reducible refine ex_wx ?_ _) | (with_reducible refine ex_drew ?_) | (with_reducible refine ex_alloc ?_ _)))⟩
end Go.Proofs.YtcdocklbpfdmeaaDoor

/- CollideGrowths: growths that came in; growth. -/
set_option linter.unusedSimpArgs false
set_option linter.unusedVariables false
set_option linter.unnecessarySimpa false
set_option maxRecDepth 20000
namespace Go.Proofs.YtcdocklbpfdmeaaDoor
open Go.RowKit
def build3gRun (P : Program) (t : TypeId) (v u x : Value) (w : World) : Result Next := ((Instr.build t #[(0, v), (1, u), (2, x)]).run P w).andThen fun x w' => .ok (.value x) w'
@[go_sem ↓ high + 10] theorem run_build3g_pre {P : Program} (ρ : Operand → Value) (d : Option Tmp) (t : TypeId) (x y z : Operand) (ty : TypeId) (pos : String) (aft : Array Edge) (g : Option (Nat × Bool)) (w : World) :
    Sem.run P (execOp ρ ⟨d, .build t #[(0, x), (1, y), (2, z)], ty, pos, aft, g⟩) w = build3gRun P t (ρ x) (ρ y) (ρ z) w := by
  simp only [execOp, Sem.run_bind, Sem.run_pure, build3gRun, List.map_toArray, List.map_cons, List.map_nil]
@[go_sem low] theorem build3gRun_other {P : Program} (t : TypeId) (v u x : Value) (w : World) : build3gRun P t v u x w = ((Instr.build t #[(0, v), (1, u), (2, x)]).run P w).andThen fun x w' => .ok (.value x) w' := rfl
theorem built_growth (m : Int) (d : Dg) (a : Option Addr) (n c : Nat) : Tryd.prog.built 79 [(0, I m), (1, .agg (rowB 32 (dF d))), (2, .slice a n c)] = some (growR m d (.slice a n c)) := by kernel_rfl
@[go_sem] theorem build3g_growth (m : Int) (d : Dg) (a : Option Addr) (n c : Nat) (w : World) : build3gRun Tryd.prog 79 (I m) (.agg (rowB 32 (dF d))) (.slice a n c) w = .ok (.value (.agg (growR m d (.slice a n c)))) w := by
  unfold build3gRun
  rw [run_build w _ _ _ (built_growth m d a n c)]; rfl
def PostGm (w : World) (m : Int) (old : Dg) (path : List Dg) (e : Ending) (w' : World) : Prop := ∃ pv, e = .returned (.agg (growR m old pv)) ∧ OwnD w' w.heap.size pv (path.take 12) ∧ ∃ X, w' = wx w X
set_option maxHeartbeats 1000000 in
theorem growth_any (m : Int) (old : Dg) (path : List Dg) (pa : Option Addr) (pc : Nat) (w : World) (hpc : path.length ≤ pc) (hpm : pc ≤ maxLen) (hpn : pa = none → pc = 0) (hpath : SlD w pa path) :
    Calls Tryd.prog 37 #[.agg (growR m old (.slice pa path.length pc))] w (PostGm w m old path) := by
  have HD := Lib.hid fun w' (h : Ex w w') => ids_any path pa pc w' hpc hpm hpn (hpath.ex h)
  generalize path.length = pn at *
  clear hpath
  go_enter Tryd.func37, Tryd.ntmps37
  go_wp2
  refine wp_region_seqA (w.alloc (.cells (growR m old (.slice pa pn pc)) 79)) [(0, true), (1, true), (2, true), (3, true), (4, true), (5, true), (6, false), (7, true), (8, false)] (by (try show Ex _ _); repeat (first | (with_reducible exact ex_refl _) | (with_reducible assumption) | (with_reducible refine ex_drewL ?_) | (with_reducible refine ex_appR ?_ _) | (with_reducible refine ex_wx ?_ _) | (with_reducible refine ex_drew ?_) | (with_reducible refine ex_alloc ?_ _))) (by kernel_rfl) (by kernel_rfl) (fun _ _ d _ _ h => by cases d <;> exact h) ?_
  simp only [List.map_cons, List.map_nil, nth]
  repeat (first | ((with_reducible refine wpSeq_look ?_); go_big_quiet_step (fail); (with_reducible refine wpQuiet_nil ?_)) | ((with_reducible refine wpSeq_effF ?_ ?_); (focus rfl); go_simp) | ((with_reducible refine wpSeq_eff ?_ ?_); (focus rfl); (try dsimp only); go_wp2_with ((go_at_call 56; (with_reducible refine (HD.out _ (by (try show Ex _ _); repeat (first | (with_reducible exact ex_refl _) | (with_reducible assumption) | (with_reducible refine ex_drewL ?_) | (with_reducible refine ex_appR ?_ _) | (with_reducible refine ex_wx ?_ _) | (with_reducible refine ex_drew ?_) | (with_reducible refine ex_alloc ?_ _)))).mono ?_); rintro e w3 ⟨v3, rfl, hv3, X3, rfl⟩; obtain ⟨a3, c3, rfl, _⟩ := hv3.slg; (try simp only [wx_wx, wx_drew] at hv3); replace hv3 := Lib.hid hv3)); refine mixQ_mk (by (try show Ex _ _); repeat (first | (with_reducible exact ex_refl _) | (with_reducible assumption) | (with_reducible refine ex_drewL ?_) | (with_reducible refine ex_appR ?_ _) | (with_reducible refine ex_wx ?_ _) | (with_reducible refine ex_drew ?_) | (with_reducible refine ex_alloc ?_ _))) ?_))
  refine wpSeq_nil ?_
  go_wp2
  have h3 := hv3.out
  simp only [List.length_take, wx_wx, wx_drew] at h3
  exact ret_row (cs := growR m old (.slice a3 (min 12 path.length) c3)) Tryd.results37 Tryd.underlying79 rfl info_growthE rfl (by simp [go_sem]) rfl ⟨_, rfl, owns_le (OwnD.turn h3 (by decide)) (by simp [go_sem] <;> omega), (by (try show Ex _ _); repeat (first | (with_reducible exact ex_refl _) | (with_reducible assumption) | (with_reducible refine ex_drewL ?_) | (with_reducible refine ex_appR ?_ _) | (with_reducible refine ex_wx ?_ _) | (with_reducible refine ex_drew ?_) | (with_reducible refine ex_alloc ?_ _)))⟩
theorem zgrow : (#[.int .i64 0, .int .u8 0, .int .u8 0, .int .u8 0, .int .u8 0, .int .u8 0, .int .u8 0, .int .u8 0, .int .u8 0, .int .u8 0, .int .u8 0, .int .u8 0, .int .u8 0, .int .u8 0, .int .u8 0, .int .u8 0, .int .u8 0, .int .u8 0, .int .u8 0, .int .u8 0, .int .u8 0, .int .u8 0, .int .u8 0, .int .u8 0, .int .u8 0, .int .u8 0, .int .u8 0, .int .u8 0, .int .u8 0, .int .u8 0, .int .u8 0, .int .u8 0, .int .u8 0, .slice none 0 0] : Array Value) = growR 0 zeroD (.slice none 0 0) := by
  unfold growR
  rw [row_zeroC]
  kernel_rfl
@[go_sem] theorem alloc_zgrow (w : World) (t : TypeId) : w.alloc (.cells #[.int .i64 0, .int .u8 0, .int .u8 0, .int .u8 0, .int .u8 0, .int .u8 0, .int .u8 0, .int .u8 0, .int .u8 0, .int .u8 0, .int .u8 0, .int .u8 0, .int .u8 0, .int .u8 0, .int .u8 0, .int .u8 0, .int .u8 0, .int .u8 0, .int .u8 0, .int .u8 0, .int .u8 0, .int .u8 0, .int .u8 0, .int .u8 0, .int .u8 0, .int .u8 0, .int .u8 0, .int .u8 0, .int .u8 0, .int .u8 0, .int .u8 0, .int .u8 0, .int .u8 0, .slice none 0 0] t) = w.alloc (.cells (growR 0 zeroD (.slice none 0 0)) t) := by rw [zgrow]
@[go_sem] theorem lt_far1 (a b : Nat) : (a < a + 1 + b) = True := eq_true (by omega)
@[go_sem] theorem lt_far2 (a b : Nat) : (a < a + 1 + b + 1) = True := eq_true (by omega)
@[go_sem] theorem lt_far3 (a b : Nat) : (a < a + 1 + 1 + b) = True := eq_true (by omega)
@[go_sem] theorem lt_far4 (a b c : Nat) : (a < a + 1 + b + 1 + c) = True := eq_true (by omega)
@[go_sem] theorem eq_far1 (a b : Nat) : (a = a + 1 + b) = False := eq_false (by omega)
/-- In the midst of the law: two copies of a growth. -/
def midX (W5 : World) (j : Int) (old : Dg) (p9 : List Dg) (ks : List Nat) (a0 a' : Act) (w' : World) : Prop :=
  ∃ (b7 b8 : Nat) (a3 : Option Addr) (c3 : Nat) (a6 : Option Addr) (c6 : Nat), a'.tmps.getD 8 undef = .pointer (some ⟨b7, 0, none⟩) ∧ a'.tmps.getD 9 undef = .pointer (some ⟨b8, 0, none⟩) ∧ a' = ks.foldl (fun a k => a.put (some k) (a'.tmps.getD k undef)) a0 ∧
    cellsN w' b7 0 34 = some (growR j old (.slice a3 p9.length c3)) ∧ cellsN w' b8 0 34 = some (growR j old (.slice a6 p9.length c6)) ∧ (∃ Z, OwnD w' Z (.slice a3 p9.length c3) p9) ∧ (∃ Z, OwnD w' Z (.slice a6 p9.length c6) p9) ∧ b7 < w'.heap.size ∧ b8 < w'.heap.size ∧ Ex W5 w'
theorem midX_mk {W5 : World} {j : Int} {old : Dg} {p9 : List Dg} {ks : List Nat} {a0 a' : Act} {w' : World} {b7 b8 : Nat} {a3 : Option Addr} {c3 : Nat} {a6 : Option Addr} {c6 : Nat} (h1 : a'.tmps.getD 8 undef = .pointer (some ⟨b7, 0, none⟩)) (h2 : a'.tmps.getD 9 undef = .pointer (some ⟨b8, 0, none⟩)) (h3 : a' = ks.foldl (fun a k => a.put (some k) (a'.tmps.getD k undef)) a0)
    (h4 : cellsN w' b7 0 34 = some (growR j old (.slice a3 p9.length c3))) (h5 : cellsN w' b8 0 34 = some (growR j old (.slice a6 p9.length c6))) (h6 : ∃ Z, OwnD w' Z (.slice a3 p9.length c3) p9) (h7 : ∃ Z, OwnD w' Z (.slice a6 p9.length c6) p9) (h8 : b7 < w'.heap.size) (h9 : b8 < w'.heap.size) (h10 : Ex W5 w') : midX W5 j old p9 ks a0 a' w' := ⟨b7, b8, a3, c3, a6, c6, h1, h2, h3, h4, h5, h6, h7, h8, h9, h10⟩
/-- A slice of growths that came in. -/
structure SlGm (w : World) (a : Option Addr) (n : Nat) : Prop where
  out : n = 0 ∨ ∃ g off, a = some ⟨g, off, none⟩ ∧ g < w.heap.size ∧ ∀ i, i < n → ∃ (j : Int) (old : Dg) (pa : Option Addr) (path : List Dg) (pc : Nat), cellsN w g (off + i * 34) 34 = some (growR j old (.slice pa path.length pc)) ∧ path.length ≤ pc ∧ pc ≤ maxLen ∧ (pa = none → pc = 0) ∧ SlD w pa path
theorem SlGm.ex {w w' : World} {a : Option Addr} {n : Nat} (h : SlGm w a n) (k : Ex w w') : SlGm w' a n := by
  rcases h.out with rfl | ⟨g, off, rfl, hg, hi⟩
  · exact ⟨Or.inl rfl⟩
  · refine ⟨Or.inr ⟨g, off, rfl, by obtain ⟨X, rfl⟩ := k; rw [wx_size]; omega, fun i h => ?_⟩⟩
    obtain ⟨j, old, pa, path, pc, h1, h3, h4, h5, h6⟩ := hi i h
    exact ⟨j, old, pa, path, pc, cellsN_exF h1 hg k, h3, h4, h5, h6.ex k⟩
end Go.Proofs.YtcdocklbpfdmeaaDoor

/- CollideGrowths, CollideOld: how growths open. -/
set_option linter.unusedSimpArgs false
set_option linter.unusedVariables false
set_option linter.unnecessarySimpa false
set_option maxRecDepth 20000
namespace Go.Proofs.YtcdocklbpfdmeaaDoor
open Go.RowKit Go.ChangeShapes Go.WideShapes Go.ChangeAt
section
variable {H : Type} {enc : TypeId × Value → H} {w : World} {base : Nat} {sp : Nat → Bool} {held : Bool}
theorem cgrowth : Tryd.prog.cellsOf 79 = 34 := by kernel_rfl
theorem growth_of_trod {fuel : Nat} {cs : List Value} {x : DataW H × List MemPlace} (h : DataW.trod enc Tryd.prog w base sp held fuel 79 cs = some x) :
    ∃ (j : Int) (old : Dg) (pa : Option Addr) (path : List Dg) (pc : Nat), cs = (growR j old (.slice pa path.length pc)).toList ∧ path.length ≤ pc ∧ pc ≤ maxLen ∧ (pa = none → pc = 0) ∧ SlD w pa path := by
  obtain ⟨xs, m, _, _, hl, hxl, hel⟩ := DataW.trod_struct Tryd.underlying79 h
  rw [cgrowth] at hl
  have hxl' : xs.length = 3 := hxl
  have e0 : DataW.trod enc Tryd.prog w base sp held m 3 ((cs.drop 0).take (Tryd.prog.cellsOf 3)) = xs[0]? := hel 0 _ rfl
  have e1 : DataW.trod enc Tryd.prog w base sp held m 46 ((cs.drop 1).take (Tryd.prog.cellsOf 46)) = xs[1]? := hel 1 _ rfl
  have e2 : DataW.trod enc Tryd.prog w base sp held m 25 ((cs.drop 33).take (Tryd.prog.cellsOf 25)) = xs[2]? := hel 2 _ rfl
  rw [c1int] at e0
  rw [cid] at e1
  rw [c1ids] at e2
  rw [List.getElem?_eq_getElem (by omega)] at e0 e1 e2
  obtain ⟨j, h0, _⟩ := DataW.trod_int Tryd.underlying3 e0
  obtain ⟨f, hf⟩ := arrB_of_trod Tryd.underlying46 Tryd.underlying5 cb cid e1
  obtain ⟨pa, path, pc, h2, s2, s3, s4, s5⟩ := ids_of_trod e2
  refine ⟨j, ofF f, pa, path, pc, ?_, s2, s3, s4, s5⟩
  have hcs : cs = (cs.drop 0).take 1 ++ ((cs.drop 1).take 32 ++ (cs.drop 33).take 1) := by
    rw [List.take_of_length_le (l := cs.drop 33) (by rw [List.length_drop]; omega)]
    conv => lhs; rw [← List.take_append_drop 1 cs]
    rw [List.drop_zero]
    congr 1
    conv => lhs; rw [← List.take_append_drop 32 (cs.drop 1), List.drop_drop]
  rw [hcs, h0, hf, h2]
  unfold growR
  rw [row_ofF, Array.toList_append, Array.toList_append, List.append_assoc]
theorem argGrowths {b0 : Nat} {r : Reach} {v : Value} {d : DataW H} {p : List MemPlace} (h : Value.okWide Tryd.prog w r b0 77 v) (hd : DataW.Trod enc Tryd.prog w base sp held 77 v d p) :
    ∃ (a : Option Addr) (n c : Nat), v = .slice a n c ∧ n ≤ c ∧ c ≤ maxLen ∧ SlGm w a n := by
  obtain ⟨fuel, x, hx⟩ := arg_slice Tryd.underlying77 h hd
  obtain ⟨a, len, cap, hv, h1, h2, h3, h4⟩ := slice_open Tryd.underlying77 cgrowth (by decide) hx
  refine ⟨a, len, cap, by simpa using hv, h1, h2, ?_⟩
  rcases h4 with rfl | ⟨g, off, rfl, hg, hi⟩
  · exact ⟨Or.inl rfl⟩
  · refine ⟨Or.inr ⟨g, off, rfl, hg, fun i hil => ?_⟩⟩
    obtain ⟨ecs, f', y, hc, hy⟩ := hi i hil
    obtain ⟨j, old, pa, path, pc, he, hp⟩ := growth_of_trod hy
    refine ⟨j, old, pa, path, pc, cellsN_some.2 ⟨growR_size _ _ _, fun k hk => ?_⟩, hp⟩
    obtain ⟨v, hv1, hv2⟩ := hc k hk
    rw [he, Array.getElem?_toList] at hv1
    rw [Nat.add_assoc, hv2, ← hv1]
theorem argGrowth {b0 : Nat} {r : Reach} {v : Value} {d : DataW H} {p : List MemPlace} (h : Value.okWide Tryd.prog w r b0 79 v) (hd : DataW.Trod enc Tryd.prog w base sp held 79 v d p) :
    ∃ (j : Int) (old : Dg) (pa : Option Addr) (path : List Dg) (pc : Nat), v = .agg (growR j old (.slice pa path.length pc)) ∧ path.length ≤ pc ∧ pc ≤ maxLen ∧ (pa = none → pc = 0) ∧ SlD w pa path := by
  obtain ⟨cs, rfl, _⟩ := okWide_struct Tryd.underlying79 h
  obtain ⟨fuel, hf⟩ := hd
  obtain ⟨j, old, pa, path, pc, h1, h2⟩ := growth_of_trod hf
  have h3 : (Value.cells (.agg cs)) = cs := rfl
  rw [h3] at h1
  exact ⟨j, old, pa, path, pc, congrArg Value.agg (Array.toList_inj.1 h1), h2⟩
end
end Go.Proofs.YtcdocklbpfdmeaaDoor
